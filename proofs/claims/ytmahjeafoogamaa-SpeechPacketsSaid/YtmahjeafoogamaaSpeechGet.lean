/- Messages: what a call of Get tells. -/
import Derived.Test.YtmahjeafoogamaaSpeechTk
namespace Go.Proofs.Ytmahjeafoogamaa
open Go.RowKit
set_option linter.unusedVariables false
set_option linter.unusedSimpArgs false
/-- What is read of a frame of kind kd. -/
def getS (kd : Int) (bs : List UInt8) : Ms × List UInt8 × Nat := (fieldsL kd).foldl takeF ((kd, 0, 0, 0, false, []), bs, 0)
def getE (kd : Int) (bs : List UInt8) : Nat :=
  if fieldsL kd = [] then 31 else if rDone (getS kd bs).2.1 (getS kd bs).2.2 ≠ 0 then rDone (getS kd bs).2.1 (getS kd bs).2.2 else if rightM (getS kd bs).1 = true then 0 else 2
def zeroM : Ms := (0, 0, 0, 0, false, [])
def getM (kd : Int) (bs : List UInt8) : Ms := if getE kd bs = 0 then (getS kd bs).1 else zeroM
def Gets (w : World) (kd : Int) (bs : List UInt8) (e : Ending) (w' : World) : Prop :=
  ∃ B n d, e = .returned (.tuple #[.agg (msV (getM kd bs) B n d), .int .i64 (getE kd bs)]) ∧ (getM kd bs).2.2.2.2.2.length = n ∧ n ≤ d ∧ updK.C w' (fun b => w.heap.size ≤ b) B (getM kd bs).2.2.2.2.2 ∧ Chg nob w w'
theorem gets_bad {w w' : World} {kd : Int} {bs : List UInt8} {E : Nat} (h : getE kd bs = E) (hE : E ≠ 0) (hc : Chg nob w w') : Gets w kd bs (.returned (.tuple #[.agg (msV zeroM none 0 0), .int .i64 E])) w' := by
  have hm : getM kd bs = zeroM := if_neg (by omega)
  rw [Gets, hm, h]
  exact ⟨none, 0, 0, rfl, rfl, Nat.le_refl _, Kd.C_nil _ _ _ _, hc⟩
theorem set6all {w : World} {g t : Nat} {a b c d e f : Value} (h : w.heap[g]? = some (.cells #[a, b, c, d, e, f] t (0, 0))) (x0 x1 x2 x3 x4 x5 : Value) :
    ((((((w.setCell ⟨g, 0, none⟩ x0).setCell ⟨g, 1, none⟩ x1).setCell ⟨g, 2, none⟩ x2).setCell ⟨g, 3, none⟩ x3).setCell ⟨g, 4, none⟩ x4).setCell ⟨g, 5, none⟩ x5).heap[g]? = some (.cells #[x0, x1, x2, x3, x4, x5] t (0, 0)) ∧
      Chg (fun k => k = g) w ((((((w.setCell ⟨g, 0, none⟩ x0).setCell ⟨g, 1, none⟩ x1).setCell ⟨g, 2, none⟩ x2).setCell ⟨g, 3, none⟩ x3).setCell ⟨g, 4, none⟩ x4).setCell ⟨g, 5, none⟩ x5) := by
  refine ⟨?_, ((((((Chg.refl _ w).set1 0 x0).set1 1 x1).set1 2 x2).set1 3 x3).set1 4 x4).set1 5 x5⟩
  simp [World.setCell, Array.getElem?_modify, h]
theorem elt0 {α : Type} {o : α} {l : List α} : (o :: l).toArray[0]? = some o := rfl
theorem eltS {α : Type} {o x : α} {l : List α} {i : Nat} (h : l.toArray[i]? = some x) : (o :: l).toArray[i + 1]? = some x := by simpa using h
/-- The results 'a message in its place, a number': the frame's other slots are not looked at. -/
theorem bodyPost_msg {fn : Func} {R : Ending → World → Prop} {T : Array Value} {w : World} {g : Nat} {a b c d e f v : Value} (hr : fn.results = #[.cell 2 25, .tmp 3]) (h2 : T[2]? = some (.pointer (some ⟨g, 0, none⟩))) (h3 : T[3]? = some v)
    (hrow : w.heap[g]? = some (.cells #[a, b, c, d, e, f] 25 (0, 0))) (hR : R (.returned (.tuple #[.agg #[a, b, c, d, e, f], v])) w) : bodyPost Try.prog fn R .ret ⟨T, []⟩ w := by
  obtain ⟨z0, z1, z2, z3, z4, z5⟩ := row6c hrow
  refine bodyPost_ret (v := .tuple #[.agg #[a, b, c, d, e, f], v]) ?_ rfl hR
  simp [results, hr, h2, h3, go_sem, z0, z1, z2, z3, z4, z5]
theorem foldl_take {α β : Type} (f : β → α → β) (b : β) (l : List α) {j : Nat} {x : α} (h : l[j]? = some x) : (l.take (j + 1)).foldl f b = f ((l.take j).foldl f b) x := by
  obtain ⟨hj, he⟩ := List.getElem?_eq_some_iff.1 h
  rw [List.take_succ_eq_append_getElem hj, he, List.foldl_append]
  rfl
theorem alloc3 (w : World) (o1 o2 o3 : Obj) : (((w.alloc o1).alloc o2).alloc o3).heap[w.heap.size]? = some o1 ∧ (((w.alloc o1).alloc o2).alloc o3).heap[w.heap.size + 1]? = some o2 ∧ (((w.alloc o1).alloc o2).alloc o3).heap[w.heap.size + 1 + 1]? = some o3 ∧
    Chg nob w (((w.alloc o1).alloc o2).alloc o3) ∧ (((w.alloc o1).alloc o2).alloc o3).heap.size = w.heap.size + 3 := by
  have e1 : (w.alloc o1).heap.size = w.heap.size + 1 := by simp
  have e2 : ((w.alloc o1).alloc o2).heap.size = w.heap.size + 1 + 1 := by simp
  refine ⟨?_, ?_, ?_, (((Chg.refl nob w).alloc _).alloc _).alloc _, by simp⟩
  · rw [Below.heap_alloc _ _ _ (by omega), Below.heap_alloc _ _ _ (by omega), heap_alloc_new]
  · rw [Below.heap_alloc _ _ _ (by omega), ← e1, heap_alloc_new]
  · rw [← e2, heap_alloc_new]
theorem rdAt_bound {w : World} {ok : Nat → Prop} {g : Nat} {mk : Bool} {bs : List UInt8} {e : Nat} (h : IsRdAt w ok g mk bs e) : IsRdAt w (fun b => ok b ∧ b < w.heap.size) g mk bs e := by
  obtain ⟨h0, A, c, h1, h2, h3⟩ := h
  exact ⟨⟨h0, heap_lt h1⟩, A, c, h1, h2, Kd.C_mono (Kd.C_bound h3) (fun b hb => ⟨⟨hb.1.1, hb.2⟩, hb.1.2⟩)⟩
set_option maxRecDepth 100000 in
set_option maxHeartbeats 2000000 in
theorem s_get {w : World} {ok : Nat → Prop} {A : Option Addr} {m c : Nat} {k : UInt8} {bs : List UInt8} (hb : Kd.byte.C w ok A bs) (hm : bs.length = m) (hm2 : m ≤ 140737488355328) :
    Calls Try.prog 14 #[.agg #[.int .u8 k.toNat, .slice A m c]] w (Gets w k.toNat bs) := by
  have hk := k.toNat_lt
  obtain ⟨K, hK⟩ : ∃ K, k.toNat = K := ⟨_, rfl⟩
  rw [hK] at hk ⊢
  clear hK
  have hwk : IntKind.i64.wrap (K : Int) = K := IntWalk.i64_in _ (by omega)
  obtain ⟨x1, x2, x3, x4, x5⟩ := alloc3 w (.cells #[.int .u8 K, .slice A m c] 28) (.cells (msV zeroM none 0 0) 25) (.cells (msV (K, 0, 0, 0, false, []) none 0 0) 25)
  have X1 := Lib.hid x1
  have X2 := Lib.hid x2
  have X3 := Lib.hid x3
  have X4 := Lib.hid x4
  have X5 := Lib.hid x5
  have HB := Lib.hid hb
  have HM := Lib.hid hm
  clear x1 x2 x3 x4 x5 hb hm
  go_enter Try.func14, Try.ntmps14
  go_wp2_with fail
  refine (s_fields _).mono ?_
  rintro e w2 ⟨hc2, AF, nf, rfl, hnf, hnil, hCF⟩
  have HF2 := Lib.hid (hc2.heap X1.out (not_nob _))
  have HR2 := Lib.hid (hc2.heap X2.out (not_nob _))
  have HM2 := Lib.hid (hc2.heap X3.out (not_nob _))
  have HC2 := Lib.hid (X4.out.thenNew hc2)
  have HCF := Lib.hid (Kd.C_bound hCF)
  have HNF := Lib.hid hnf
  have hs2 : w.heap.size + 3 ≤ w2.heap.size := by have h := hc2.size; simp at h; omega
  have hnf3 : nf ≤ 3 := by rw [← hnf]; exact fieldsL_len _
  have heq := fun (A : Option Addr) (wx : World) => Lib.run_eql_slice_nil (P := Try.prog) wx 56 3 A nf nf 0 0 Try.underlying56
  clear hc2 hCF hnf X1 X2 X3
  by_cases hz : fieldsL K = []
  · obtain rfl : AF = none := hnil.2 hz
    have HE : Hid (getE K bs = 31) := if_pos hz
    have f0 := froz HR2.out 0
    have f1 := froz HR2.out 1
    have f2 := froz HR2.out 2
    have f3 := froz HR2.out 3
    have f4 := froz HR2.out 4
    have f5 := froz HR2.out 5
    obtain ⟨z0, z1, z2, z3, z4, z5⟩ := row6c HR2.out
    clear hnil hz
    go_wp2
    obtain ⟨hrow, hch⟩ := set6all HR2.out (.int .i64 0) (.int .u32 0) (.int .i64 0) (.int .i64 0) (.bool false) (.slice none 0 0)
    generalize (World.setCell (World.setCell (World.setCell (World.setCell (World.setCell (World.setCell w2 _ _) _ _) _ _) _ _) _ _) _ _) = w9 at hrow hch ⊢
    clear z0 z1 z2 z3 z4 z5
    obtain ⟨z0, z1, z2, z3, z4, z5⟩ := row6c hrow
    refine bodyPost_msg Try.results14 (eltS (eltS elt0)) (eltS (eltS (eltS elt0))) hrow ?_
    exact gets_bad HE.out (by decide) ((((HC2.out).ofNew (S := fun k => w.heap.size ≤ k)).trans hch (fun i hi => .inl (by show _ ≤ _; omega))).mono (T := nob) (fun i hi => .inr hi))
  · cases AF with
    | none => exact absurd (hnil.1 rfl) hz
    | some a =>
    have HZ := Lib.hid hz
    obtain ⟨p0, p1⟩ := row2s HF2.out
    clear hnil hz
    go_wp2_with fail
    refine (rd_read (Kd.C_new HB.out HC2.out) HM.out hm2).mono ?_
    rintro e w3 ⟨g, rfl, hrd, hc3⟩
    have hg2 := hrd.1
    have hgl := hrd.lt
    obtain ⟨okr, hT⟩ : ∃ okr : Nat → Prop, TkSt (w.heap.size + 3) w3 okr g (w.heap.size + 1 + 1) ((K, 0, 0, 0, false, []), bs, 0) :=
      ⟨fun b => w2.heap.size ≤ b ∧ b < w3.heap.size, rdAt_bound hrd, ⟨none, 0, 0, hc3.heap HM2.out (not_nob _), rfl, Nat.le_refl _, Kd.C_nil _ _ _ _⟩, ⟨fun h => by have := h.1; omega, by omega⟩, by have := hc3.size; omega, fun k hk => hk.2⟩
    have HT0 : Hid (TkSt (w.heap.size + 3) w3 okr g (w.heap.size + 1 + 1) (((fieldsL K).take 0).foldl takeF ((K, 0, 0, 0, false, []), bs, 0))) := hT
    have HR3 := Lib.hid (hc3.heap HR2.out (not_nob _))
    have HC3 := Lib.hid (HC2.out.thenNew hc3)
    have HCF3 : Hid ((Kd.int .i64).C w3 (fun b => b ≠ g ∧ b ≠ w.heap.size + 1 + 1) (some a) (fieldsL K)) := Kd.C_mono (Kd.C_new HCF.out hc3) (fun b hb => ⟨by have := hb.2; omega, by have h := hb.1; simp at h; omega⟩)
    have HX0 := Lib.hid (Chg.refl (TkC g (w.heap.size + 1 + 1)) w3)
    clear hrd hc3 hT p0 p1 HF2 HR2 HM2 HCF HC2 heq
    go_wp2
    go_loopw [25] (fun i wr => ∃ j : Nat, j ≤ nf ∧ i = .int .i64 j ∧ Hid (TkSt (w.heap.size + 3) wr okr g (w.heap.size + 1 + 1) (((fieldsL K).take j).foldl takeF ((K, 0, 0, 0, false, []), bs, 0))) ∧ Hid (Chg (TkC g (w.heap.size + 1 + 1)) w3 wr)) (fun i _ => nf - (intOf i).toNat)
    case atStart => exact ⟨0, Nat.zero_le _, rfl, HT0, HX0⟩
    case round =>
      obtain ⟨j, hj1, rfl, HT, HX⟩ := hrel
      clear HT0 HX0
      by_cases hlt : j < nf
      · have b1 : (j : Int) < (nf : Int) := by omega
        have b3 : (0 : Int) ≤ (j : Int) := by omega
        obtain ⟨f, hf⟩ : ∃ f, (fieldsL K)[j]? = some f := ⟨_, List.getElem?_eq_getElem (by rw [HNF.out]; exact hlt)⟩
        obtain ⟨ad, hae, _, hcell⟩ := at_scalar (Kd.C_chg HCF3.out HX.out (fun b hb hk => by rcases hk with h | h; exact hb.1 h; exact hb.2 h)) hf
        cases hae
        have hcell' : wr.cell? (a.add j) = some (.int .i64 f) := hcell
        have HFT := Lib.hid (foldl_take takeF ((K, 0, 0, 0, false, []), bs, 0) (fieldsL K) hf)
        have HFM := Lib.hid (fieldsL_mem (List.mem_of_getElem? hf))
        clear hf hcell
        go_wp2_with fail
        refine (s_take HT.out HFM.out).mono ?_
        rintro e w5 ⟨rfl, hT5, hc5⟩
        have HT5 : Hid (TkSt (w.heap.size + 3) w5 okr g (w.heap.size + 1 + 1) (((fieldsL K).take (j + 1)).foldl takeF ((K, 0, 0, 0, false, []), bs, 0))) := by
          show TkSt _ _ _ _ _ _
          rw [HFT.out]
          exact hT5
        have HX5 := Lib.hid (HX.out.trans hc5 (fun i hi => .inl hi))
        clear hT5 hc5 hcell'
        go_wp2
        exact ⟨⟨j + 1, by omega, by go_num, HT5, HX5⟩, by simp [intOf]; omega⟩
      · obtain rfl : j = nf := by omega
        have b1 : ¬ (j : Int) < (j : Int) := by omega
        have hT6 : TkSt (w.heap.size + 3) wr okr g (w.heap.size + 1 + 1) (getS K bs) := by
          have := HT.out
          rw [← HNF.out, List.take_length] at this
          exact this
        have HRr := Lib.hid (HX.out.heap HR3.out (fun hk => by rcases hk with h | h <;> omega))
        have HCr : Hid (Chg (fun k => w.heap.size ≤ k) w wr) := (HC3.out.ofNew (S := fun k => w.heap.size ≤ k)).trans HX.out (fun i hi => .inl (by show _ ≤ _; rcases hi with h | h <;> omega))
        obtain ⟨⟨⟨kd, sq, fr, tg, rp, us⟩, bs', e'⟩, hS⟩ : ∃ S, getS K bs = S := ⟨_, rfl⟩
        rw [hS] at hT6
        have HT6 := Lib.hid hT6
        have HS := Lib.hid hS
        have HE : Hid (getE K bs = if rDone bs' e' ≠ 0 then rDone bs' e' else if rightM (kd, sq, fr, tg, rp, us) = true then 0 else 2) := by show _ = _; rw [getE, if_neg HZ.out, hS]
        clear hT6 hS HT HX HR3 HC3
        go_wp2_with fail
        refine (rd_done (.inl ⟨g, rfl, HT6.out.rd⟩)).mono ?_
        rintro e w6 ⟨rfl, rfl⟩
        obtain ⟨E, hE⟩ : ∃ E, rDone bs' e' = E := ⟨_, rfl⟩
        rw [hE] at HE ⊢
        clear hE
        have f0 := froz HRr.out 0
        have f1 := froz HRr.out 1
        have f2 := froz HRr.out 2
        have f3 := froz HRr.out 3
        have f4 := froz HRr.out 4
        have f5 := froz HRr.out 5
        obtain ⟨z0, z1, z2, z3, z4, z5⟩ := row6c HRr.out
        by_cases he : E = 0
        · subst he
          rw [show (((0 : Nat) : Int)) = (0 : Int) from rfl]
          obtain ⟨B, n, d, hrow, hn, hnd, hu⟩ := HT6.out.row
          dsimp only at hn hu
          have HU := Lib.hid hu
          have HN := Lib.hid hn
          have HROW := Lib.hid hrow
          obtain ⟨q0, q1, q2, q3, q4, q5⟩ := row6c hrow
          dsimp only at q0 q1 q2 q3 q4 q5
          clear hrow hn hu f0 f1 f2 f3 f4 f5 z0 z1 z2 z3 z4 z5
          go_wp2_with fail
          refine (s_right (m := (kd, sq, fr, tg, rp, us)) HU.out HN.out).mono ?_
          rintro e w7 ⟨rfl, hc7⟩
          obtain ⟨b, hR⟩ : ∃ b, rightM (kd, sq, fr, tg, rp, us) = b := ⟨_, rfl⟩
          rw [hR] at HE ⊢
          have HR7 := Lib.hid (hc7.heap HRr.out (not_nob _))
          have HRO7 := Lib.hid (hc7.heap HROW.out (not_nob _))
          have HU7 := Lib.hid (Kd.C_new HU.out hc7)
          have HC7 := Lib.hid (HCr.out.thenNew hc7)
          clear hc7 hR q0 q1 q2 q3 q4 q5
          have f0 := froz HR7.out 0
          have f1 := froz HR7.out 1
          have f2 := froz HR7.out 2
          have f3 := froz HR7.out 3
          have f4 := froz HR7.out 4
          have f5 := froz HR7.out 5
          obtain ⟨z0, z1, z2, z3, z4, z5⟩ := row6c HR7.out
          cases b
          · have HE2 : Hid (getE K bs = 2) := by show _ = _; rw [HE.out]; rfl
            go_wp2
            obtain ⟨hrow, hch⟩ := set6all HR7.out (.int .i64 0) (.int .u32 0) (.int .i64 0) (.int .i64 0) (.bool false) (.slice none 0 0)
            generalize (World.setCell (World.setCell (World.setCell (World.setCell (World.setCell (World.setCell w7 _ _) _ _) _ _) _ _) _ _) _ _) = w9 at hrow hch ⊢
            clear z0 z1 z2 z3 z4 z5
            obtain ⟨z0, z1, z2, z3, z4, z5⟩ := row6c hrow
            refine bodyPost_msg Try.results14 (eltS (eltS elt0)) (eltS (eltS (eltS elt0))) hrow ?_
            exact gets_bad HE2.out (by decide) ((HC7.out.trans hch (fun i hi => .inl (by show _ ≤ _; omega))).mono (T := nob) (fun i hi => .inr hi))
          · have HE2 : Hid (getE K bs = 0) := by show _ = _; rw [HE.out]; rfl
            obtain ⟨q0, q1, q2, q3, q4, q5⟩ := row6c HRO7.out
            dsimp only at q0 q1 q2 q3 q4 q5
            go_wp2
            obtain ⟨hrow, hch⟩ := set6all HR7.out (.int .i64 kd) (.int .u32 sq) (.int .i64 fr) (.int .i64 tg) (.bool rp) (.slice B n d)
            generalize (World.setCell (World.setCell (World.setCell (World.setCell (World.setCell (World.setCell w7 _ _) _ _) _ _) _ _) _ _) _ _) = w9 at hrow hch ⊢
            clear z0 z1 z2 z3 z4 z5
            obtain ⟨z0, z1, z2, z3, z4, z5⟩ := row6c hrow
            refine bodyPost_msg Try.results14 (eltS (eltS elt0)) (eltS (eltS (eltS elt0))) hrow ?_
            have hM : getM K bs = (kd, sq, fr, tg, rp, us) := by rw [getM, if_pos HE2.out, HS.out]
            rw [Gets, hM, HE2.out]
            refine ⟨B, n, d, rfl, HN.out, hnd, ?_, (HC7.out.trans hch (fun i hi => .inl (by show _ ≤ _; omega))).mono (T := nob) (fun i hi => .inr hi)⟩
            exact Kd.C_mono (Kd.C_chg HU7.out hch (fun b hb e => by have := hb.1; have : b = w.heap.size + 1 := e; omega)) (fun b hb => by have := hb.1; show _ ≤ _; omega)
        · have hE0 : ((E : Int) == 0) = false := by simp; omega
          have HE2 : Hid (getE K bs = E) := by show _ = _; rw [HE.out, if_pos he]
          have HNE := Lib.hid he
          clear he HE
          go_wp2
          obtain ⟨hrow, hch⟩ := set6all HRr.out (.int .i64 0) (.int .u32 0) (.int .i64 0) (.int .i64 0) (.bool false) (.slice none 0 0)
          generalize (World.setCell (World.setCell (World.setCell (World.setCell (World.setCell (World.setCell w6 _ _) _ _) _ _) _ _) _ _) _ _) = w9 at hrow hch ⊢
          clear z0 z1 z2 z3 z4 z5
          obtain ⟨z0, z1, z2, z3, z4, z5⟩ := row6c hrow
          refine bodyPost_msg Try.results14 (eltS (eltS elt0)) (eltS (eltS (eltS elt0))) hrow ?_
          exact gets_bad HE2.out HNE.out ((HCr.out.trans hch (fun i hi => .inl (by show _ ≤ _; omega))).mono (T := nob) (fun i hi => .inr hi))
end Go.Proofs.Ytmahjeafoogamaa
