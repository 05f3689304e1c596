/- The law ProbePlays: the walk. -/
import Derived.Test.YtoiikjojknnobaaProbePl
import Derived.Deep.CutBlock
namespace Go.Proofs.Ytoiikjojknnobaa
open Go.RowKit
set_option linter.unusedVariables false
set_option linter.unusedSimpArgs false
/-- Between the steps. -/
def PlEq (W : World) (g : Nat) (p : Option Addr) (g2 gd2 : Nat) (xs : List Int) (w : World) : Prop := ∃ s k own own2, PSt W own g p xs s k w ∧ QSt W own2 g2 gd2 xs s k w ∧ ∀ b, own b → ¬ own2 b
section
variable {W w w' : World} {g k g2 gd2 sb : Nat} {p : Option Addr} {xs : List Int} {s s2 : List Int × Nat} {k2 : Nat} {ob : Obj}
theorem PlEq.new (h : PlEq W g p g2 gd2 xs w) (hc : Chg nob w w') : PlEq W g p g2 gd2 xs w' := by
  obtain ⟨s, k, own, own2, h1, h2, h3⟩ := h
  exact ⟨s, k, own, own2, h1.new hc, h2.chg hc (fun b hb => (not_nob b hb).elim), h3⟩
theorem PlEq.chg (h : PlEq W g p g2 gd2 xs w) : Chg nob W w := by
  obtain ⟨s, k, own, own2, ⟨_, _, _, _, _, _, _, h, _⟩, _⟩ := h
  exact h
theorem PlEq.box (h : PlEq W g p g2 gd2 xs w) (ob : Obj) : ∃ s k, Pl W g p g2 gd2 xs w.heap.size ob s k s k (w.alloc ob) := by
  have hc := (Chg.refl nob w).alloc ob
  obtain ⟨s, k, own, own2, h1, h2, h3⟩ := h
  exact ⟨s, k, own, own2, h1.new hc, h2.chg hc (fun b hb => (not_nob b hb).elim), h3, heap_alloc_new w ob, fun e => by have := (h1.lt _ e).2; omega, fun e => by have := (h2.lt _ e).2; omega⟩
theorem Pl.eq (h : Pl W g p g2 gd2 xs sb ob s k s k w) : PlEq W g p g2 gd2 xs w := by
  obtain ⟨own, own2, h1, h2, h3, _⟩ := h
  exact ⟨s, k, own, own2, h1, h2, h3⟩
theorem Pl.cells (h : Pl W g p g2 gd2 xs sb ob s k s2 k2 w) {a b c d : Value} {t : Nat} (ho : ob = .cells #[a, b, c, d] t (0, 0)) : w.cell? ⟨sb, 0, none⟩ = some a ∧ w.cell? ⟨sb, 1, none⟩ = some b ∧ w.cell? ⟨sb, 2, none⟩ = some c ∧ w.cell? ⟨sb, 3, none⟩ = some d := by
  obtain ⟨own, own2, h1, h2, h3, h4, _⟩ := h
  subst ho
  exact ⟨by rw [cell_of_row w sb 0 _ _ _ h4]; rfl, by rw [cell_of_row w sb 1 _ _ _ h4]; rfl, by rw [cell_of_row w sb 2 _ _ _ h4]; rfl, by rw [cell_of_row w sb 3 _ _ _ h4]; rfl⟩
/-- What the law reads of the reference's ring and draws, and what the ring's calls tell. -/
theorem PlEq.read {gd : Nat} (h : PlEq W g (some ⟨gd, 0, none⟩) g2 gd2 xs w) : ∃ row at_ k A c, w.cell? ⟨g2, 0, none⟩ = some (.slice A row.length c) ∧ w.cell? ⟨g2, 1, none⟩ = some (.int .i64 (at_ : Nat)) ∧ w.cell? ⟨gd2, 1, none⟩ = some (.int .i64 (k : Nat)) ∧ row.length ≤ 8 ∧
    (∀ wx, Chg nob w wx → Calls Try.prog 13 #[.pointer (some ⟨g, 0, none⟩)] wx (fun e w' => ∃ B d, e = .returned (.slice B row.length d) ∧ Chg nob w w' ∧ intK.C w' (fun b => b < w'.heap.size) B row)) ∧
    (∀ wx, Chg nob w wx → intK.C wx (fun b => b < wx.heap.size) A row) ∧
    (∀ wx, Chg nob w wx → Calls Try.prog 23 #[.pointer (some ⟨g, 0, none⟩)] wx (fun e w' => e = .returned (.int .i64 (at_ : Nat)) ∧ w' = wx)) ∧
    (∀ wx, Chg nob w wx → Calls Try.prog 24 #[.pointer (some ⟨gd, 0, none⟩)] wx (fun e w' => e = .returned (.int .i64 (k : Nat)) ∧ wx = w')) := by
  obtain ⟨s, k, own, own2, h1, h2, h3⟩ := h
  have hq := h2
  have hlen : s.1.length ≤ 8 := by obtain ⟨_, _, _, _, _, _, _, _, h⟩ := h1; exact h.len
  obtain ⟨okr, ⟨_, A, c, b1, b2⟩, ⟨_, B, d, e1, _⟩, a3, a4, a5, a6, a7⟩ := h2
  refine ⟨s.1, s.2, k, A, c, ?_, ?_, ?_, hlen, fun wx hc => ?_, fun wx hc => ?_, fun wx hc => ?_, fun wx hc => ?_⟩
  · rw [cell_of_row w g2 0 _ _ _ b1]; rfl
  · rw [cell_of_row w g2 1 _ _ _ b1]; rfl
  · rw [cell_of_row w gd2 1 _ _ _ e1]; rfl
  · have hli : Calls Try.prog 13 #[.pointer (some ⟨g, 0, none⟩)] wx (Cloned wx s.1) := by
      obtain ⟨okr, okd, z1, _⟩ := h1.new hc
      exact rg_list z1 (by omega)
    refine hli.mono ?_
    rintro e w' ⟨B, d, he, _, hC, hc2⟩
    exact ⟨B, d, he, hc.thenNew hc2, Kd.C_mono (Kd.C_bound hC) (fun b hb => hb.2)⟩
  · exact Kd.C_mono (Kd.C_bound (Kd.C_new b2 hc)) (fun b hb => hb.2)
  · obtain ⟨okr, okd, z1, _⟩ := h1.new hc
    exact rg_at z1
  · obtain ⟨okr, okd, z1, z2, _⟩ := h1.new hc
    rcases z2 with ⟨g', e, hd⟩ | ⟨e, _⟩
    · cases e
      exact draw_taken hd
    · cases e
theorem PlEq.start {w1 w2 w3 w4 : World} {gd : Nat} (hr : IsRing w1 (fun _ => False) g [] 0) (hg : W.heap.size ≤ g) (hc1 : Chg nob W w1) (hc2 : Chg nob w1 w2) (hb2 : w2.heap[w1.heap.size]? = some (.cells #[.slice none 0 0, .int .i64 0] 44 (0, 0))) (hd : IsDraws w3 (fun b => w2.heap.size ≤ b) gd xs 0) (hc3 : Chg nob w2 w3) (hf : IsRef w4 (fun b => b < W.heap.size) gd2 xs 0) (hgd2 : w3.heap.size ≤ gd2) (hc4 : Chg nob w3 w4) : PlEq W g (some ⟨gd, 0, none⟩) w1.heap.size gd2 xs w4 := by
  have z1 := hc1.size
  have z2 := hc2.size
  have z3 := hc3.size
  have z4 := hc4.size
  have z5 := heap_lt hb2
  have z6 := hr.lt
  have z7 := hf.lt
  refine ⟨([], 0), 0, fun b => b = g ∨ (w2.heap.size ≤ b ∧ b < w3.heap.size), fun b => b = w1.heap.size ∨ b = gd2, ?_, ?_, fun b hb e => by omega⟩
  · exact ⟨fun _ => False, fun b => w2.heap.size ≤ b ∧ b < w3.heap.size, ((hr.new hc2).new hc3).new hc4, (IsD.of hd).bound.new hc4, fun b hb => ⟨fun h => h, by omega⟩, fun b hb => by rcases hb with h | h | h; exact h.elim; exact .inr h; exact .inl h, fun b hb => by rcases hb with h | h; (subst h; constructor <;> omega); (constructor <;> omega), ((hc1.thenNew hc2).thenNew hc3).thenNew hc4, good0⟩
  · exact ⟨fun _ => False, ⟨fun h => h, none, 0, hc4.heap (hc3.heap hb2 (not_nob _)) (not_nob _), Kd.C_nil _ _ _ _⟩, hf, by omega, fun h => h, fun b hb => by rcases hb with h | h | h; exact h.elim; exact .inl h; exact .inr h, fun b hb => by rcases hb with h | h <;> (subst h; constructor <;> omega), good0⟩
end
set_option maxRecDepth 100000 in
set_option maxHeartbeats 8000000 in
theorem probePlays_walk {w : World} {A : Option Addr} {c : Nat} {xs : List Int} (h : (Kd.int .u32).C w (fun b => b < w.heap.size) A xs) (hc : xs.length ≤ c) (hb : ∀ x ∈ xs, 0 ≤ x ∧ x < 4294967296) {B : Option Addr} {nl cl : Nat} {ls : List Stp} (hls : stpW.C w (fun b => b < w.heap.size) B ls) (hnl : ls.length = nl) :
    Calls Try.prog 6 #[.slice A xs.length c, .slice B nl cl] w fun e w' => e = .returned (.bool true) ∧ Chg nob w w' := by
  obtain ⟨n, hn⟩ : ∃ n, xs.length = n := ⟨_, rfl⟩
  have HX := Lib.hid h
  have HXN := Lib.hid hn
  have HXC := Lib.hid hc
  have HXB := Lib.hid hb
  have HLS := Lib.hid hls
  have HNL := Lib.hid hnl
  rw [hn]
  clear h hn hc hb hls hnl
  go_enter Try.func6, Try.ntmps6
  go_wp2_with fail
  refine (rg_new _).mono ?_
  rintro e w1 ⟨g, rfl, hg, hr, hc1⟩
  have hg1 := hr.lt
  go_wp2_with fail
  obtain ⟨w2, hw2⟩ : ∃ w2, w2 = w1.alloc (.cells #[.slice none 0 0, .int .i64 0] 44) := ⟨_, rfl⟩
  have hc2 : Chg nob w1 w2 := by rw [hw2]; exact (Chg.refl _ _).alloc _
  have hb2 : w2.heap[w1.heap.size]? = some (.cells #[.slice none 0 0, .int .i64 0] 44 (0, 0)) := by rw [hw2]; exact heap_alloc_new w1 _
  have hs2 : w2.heap.size = w1.heap.size + 1 := by rw [hw2]; simp
  rw [← hw2]
  have HC1 := Lib.hid hc1
  have HC2 := Lib.hid hc2
  have HB2 := Lib.hid hb2
  have HS2 := Lib.hid hs2
  have HR := Lib.hid hr
  clear hw2 hc2 hb2 hs2 hr hc1
  have hdn := draw_new (c := c) (Kd.C_new HX.out (HC1.out.thenNew HC2.out)) HXC.out HXB.out
  rw [HXN.out] at hdn
  refine hdn.mono ?_
  rintro e w3 ⟨gd, rfl, hd, hc3⟩
  have HD := Lib.hid hd
  have HC3 := Lib.hid hc3
  clear hdn hd hc3
  go_wp2_with fail
  have hdn := ref_new (c := c) (Kd.C_new HX.out ((HC1.out.thenNew HC2.out).thenNew HC3.out)) (fun b hb => by have := HC1.out.size; have := HC2.out.size; have := HC3.out.size; omega) HXC.out HXB.out
  rw [HXN.out] at hdn
  refine hdn.mono ?_
  rintro e w4 ⟨gd2, rfl, hgd2, hr4, hc4⟩
  generalize List.take 4096 xs = ys at HD hr4
  have HP : Hid (PlEq w g (some ⟨gd, 0, none⟩) w1.heap.size gd2 ys w4) := PlEq.start HR.out hg HC1.out HC2.out HB2.out HD.out HC3.out hr4 hgd2 hc4
  generalize w1.heap.size = g2 at HP ⊢
  clear HC1 HC2 HB2 HS2 HR HC3 HD hr4 hc4 hgd2 hdn HX HXN HXC HXB hg hg1
  have hsm := HLS.out.small
  rw [HNL.out] at hsm
  go_wp2
  go_loopw [9] (fun v wr => ∃ j : Nat, j ≤ nl ∧ v = .int .i64 j ∧ Hid (PlEq w g (some ⟨gd, 0, none⟩) g2 gd2 ys wr)) (fun v _ => nl - (intOf v).toNat)
  case atStart => exact ⟨0, Nat.zero_le _, rfl, HP⟩
  case round =>
    obtain ⟨j, hj, rfl, HPJ⟩ := hrel
    clear HP
    by_cases hlt1 : j < nl ∧ j < 60
    · obtain ⟨hlt1, hlt2⟩ := hlt1
      have b1 : (j : Int) < (nl : Int) := by omega
      have b2 : (j : Int) < 60 := by omega
      have b3 : (0 : Int) ≤ (j : Int) := by omega
      obtain ⟨x, hx⟩ : ∃ x, ls[j]? = some x := ⟨_, List.getElem?_eq_getElem (by rw [HNL.out]; exact hlt1)⟩
      obtain ⟨xk, xn, xm, live⟩ := x
      have HW := Lib.hid HPJ.out.chg
      obtain ⟨lb, lo, L, lc, rfl, e0, e1, e2, e3, hL, hlc⟩ := stp_at HLS.out hx
      obtain ⟨ln, hln⟩ : ∃ ln, live.length = ln := ⟨_, rfl⟩
      dsimp only at e0 e1 e2 e3 hL hlc
      rw [hln] at e3 hlc
      have d0 := HW.out.cell e0 (not_nob _)
      have d1 := HW.out.cell e1 (not_nob _)
      have d2 := HW.out.cell e2 (not_nob _)
      have d3 := HW.out.cell e3 (not_nob _)
      have HL := Lib.hid hL
      have HLN := Lib.hid hln
      have hls := hL.small
      rw [hln] at hls
      obtain ⟨ob, hob⟩ : ∃ ob, ob = Obj.cells #[.int .i64 xk, .int .i64 xn, .int .i64 xm, .slice L ln lc] 48 (0, 0) := ⟨_, rfl⟩
      obtain ⟨s, k, hpl⟩ := HPJ.out.box ob
      have HOB := Lib.hid hob
      have HPL0 := Lib.hid hpl
      clear e0 e1 e2 e3 hL hln hx hpl
      go_upto_block 2 with fail
      rw [← HOB.out]
      have hpl := HPL0.out
      clear d0 d1 d2 d3 hob
      generalize wr.heap.size = sb at hpl HPL0 ⊢
      generalize wr.alloc ob = w5 at hpl HPL0 ⊢
      obtain ⟨c0, c1, c2, c3⟩ := hpl.cells HOB.out
      clear hpl
      go_cut [11, 12, 13, 14, 15] from 37 to 112 (fun r _ _ _ _ wx => r = .bool true ∧ Hid (PlEq w g (some ⟨gd, 0, none⟩) g2 gd2 ys wx))
      case first =>
        have hkind : xk = 0 ∨ xk = 1 ∨ xk = 2 ∨ xk = 3 ∨ (¬ xk = 0 ∧ ¬ xk = 1 ∧ ¬ xk = 2 ∧ ¬ xk = 3) := by omega
        rcases hkind with rfl | rfl | rfl | rfl | ⟨k0, k1, k2, k3⟩
        · have hpl := HPL0.out.new ((Chg.refl nob w5).drew)
          go_wp2
          go_region_held3 (fun w' => w'.cell? ⟨sb, 1, none⟩ = some (.int .i64 xn)) (exact (Pl.cells (by assumption) HOB.out).2.1)
            (first | (go_at_call 10; refine (pl_add (by assumption) xn).mono ?_; rintro e w' ⟨rfl, hq⟩) | (go_at_call 17; refine (pl_radd (by assumption) xn).mono ?_; rintro e w' ⟨rfl, hq⟩))
          all_goals
            go_wp2
            go_meet
            exact ⟨rfl, Lib.hid (Pl.eq (by assumption))⟩
        · have hpl := HPL0.out.new ((Chg.refl nob w5).drew)
          go_wp2
          go_region_held3 (fun w' => w'.cell? ⟨sb, 1, none⟩ = some (.int .i64 xn)) (exact (Pl.cells (by assumption) HOB.out).2.1)
            (first | (go_at_call 18; refine (pl_remove (by assumption) xn).mono ?_; rintro e w' ⟨rfl, hq⟩) | (go_at_call 19; refine (pl_rremove (by assumption) xn).mono ?_; rintro e w' ⟨rfl, hq⟩))
          all_goals
            go_wp2
            go_meet
            exact ⟨rfl, Lib.hid (Pl.eq (by assumption))⟩
        · go_wp2_with fail
          refine (pl_next HPL0.out HL.out HLN.out).mono ?_
          rintro e w6 ⟨rfl, hq⟩
          have HQ := Lib.hid hq
          obtain ⟨c0, c1, c2, c3⟩ := hq.cells HOB.out
          clear hq
          go_wp2_with fail
          refine (pl_rnext HQ.out HL.out HLN.out).mono ?_
          rintro e w7 ⟨rfl, hq⟩
          have HQ2 := Lib.hid hq.eq
          clear hq c0 c1 c2 c3
          go_wp2
          go_meet
          exact ⟨rfl, HQ2⟩
        · by_cases h64 : ln ≤ 64
          · have b64 : (ln : Int) ≤ 64 := by omega
            have hpl := HPL0.out.new ((Chg.refl nob w5).drew)
            go_wp2
            go_region_held3 (fun w' => w'.cell? ⟨sb, 1, none⟩ = some (.int .i64 xn) ∧ w'.cell? ⟨sb, 2, none⟩ = some (.int .i64 xm) ∧ w'.cell? ⟨sb, 3, none⟩ = some (.slice L ln lc)) (exact (Pl.cells (by assumption) HOB.out).2)
              (first | (go_at_call 15; refine (pl_others (by assumption) HL.out HLN.out h64 xn xm).mono ?_; rintro e w' ⟨A1, c1, rfl, hq, hA⟩) | (go_at_call 22; refine (pl_rothers (by assumption) HL.out HLN.out h64 xn xm (by assumption)).mono ?_; rintro e w' ⟨B1, d1, rfl, hq, hA, hB⟩) | (go_at_call 21; refine (pl_same (by assumption) (by assumption) (by assumption)).mono ?_; rintro e w' ⟨rfl, hq⟩))
            all_goals
              go_wp2
              go_meet
              exact ⟨rfl, Lib.hid (Pl.eq (by assumption))⟩
          · have b64 : ¬ (ln : Int) ≤ 64 := by omega
            have HQ2 := Lib.hid HPL0.out.eq
            go_wp2
            go_meet
            exact ⟨rfl, HQ2⟩
        · have HQ2 := Lib.hid HPL0.out.eq
          go_wp2
          go_meet
          exact ⟨rfl, HQ2⟩
      case rest =>
        obtain ⟨rfl, HQ⟩ := hcut
        obtain ⟨row, at_, k2, A2, c2, p0, p1, p2, hr8, hli, hrow, hat, htk⟩ := HQ.out.read
        obtain ⟨rn, hrn⟩ : ∃ rn, row.length = rn := ⟨_, rfl⟩
        rw [hrn] at p0
        have HRN := Lib.hid hrn
        have HLI := Lib.hid hli
        have HROW := Lib.hid hrow
        have HAT := Lib.hid hat
        have HTK := Lib.hid htk
        have HP0 := Lib.hid p0
        have HP1 := Lib.hid p1
        have HP2 := Lib.hid p2
        have HS : Hid (∀ wx B d, Chg nob wc wx → intK.C wx (fun b => b < wx.heap.size) B row → Calls Try.prog 21 #[.slice B rn d, .slice A2 rn c2] wx (fun e w' => e = .returned (.bool true) ∧ Chg nob wc w')) := by
          intro wx B d hc hB
          refine (same_true hrn hB (hrow wx hc)).mono ?_
          rintro e w' ⟨he, hc2⟩
          exact ⟨he, hc.thenNew hc2⟩
        have hcc := (Chg.refl nob wc).drew
        clear hli hrow hat htk hrn p0 p1 p2 hr8
        go_wp2
        go_region_held3 (fun w' => w'.cell? ⟨g2, 0, none⟩ = some (.slice A2 rn c2) ∧ w'.cell? ⟨g2, 1, none⟩ = some (.int .i64 at_) ∧ w'.cell? ⟨gd2, 1, none⟩ = some (.int .i64 k2)) (exact ⟨Chg.cell (by assumption) HP0.out (not_nob _), Chg.cell (by assumption) HP1.out (not_nob _), Chg.cell (by assumption) HP2.out (not_nob _)⟩)
          (first | (go_at_call 13; refine (HLI.out _ (by assumption)).mono ?_; rintro e w' ⟨B1, d1, rfl, hq, hB⟩; rw [HRN.out]) | (go_at_call 23; refine (HAT.out _ (by assumption)).mono ?_; rintro e w' ⟨rfl, rfl⟩) | (go_at_call 24; refine (HTK.out _ (by assumption)).mono ?_; rintro e w' ⟨rfl, rfl⟩) | (go_at_call 21; refine (HS.out _ _ _ (by assumption) (by assumption)).mono ?_; rintro e w' ⟨rfl, hq2⟩))
        all_goals
          go_wp2
          exact ⟨⟨j + 1, by omega, by go_num, Lib.hid (HQ.out.new (by assumption))⟩, by simp [intOf]; omega⟩
    · obtain ⟨row, at_, k2, A2, c2, p0, p1, p2, hr8, hli, hrow, hat, htk⟩ := HPJ.out.read
      obtain ⟨rn, hrn⟩ : ∃ rn, row.length = rn := ⟨_, rfl⟩
      rw [hrn] at p0
      have HRN := Lib.hid hrn
      have HLI := Lib.hid hli
      have HP0 := Lib.hid p0
      have HCH := Lib.hid HPJ.out.chg
      obtain ⟨w1, hw1⟩ : ∃ w1, w1 = wr := ⟨_, rfl⟩
      subst hw1
      have HS : Hid (∀ wx B d, Chg nob w1 wx → intK.C wx (fun b => b < wx.heap.size) B row → Calls Try.prog 21 #[.slice B rn d, .slice A2 rn c2] wx (fun e w' => e = .returned (.bool true) ∧ Chg nob w1 w')) := by
        intro wx B d hc hB
        refine (same_true hrn hB (hrow wx hc)).mono ?_
        rintro e w' ⟨he, hc2⟩
        exact ⟨he, hc.thenNew hc2⟩
      have HWK : Hid (∀ wx, Chg nob w1 wx → Calls Try.prog 12 #[] wx (fun e w' => e = .returned (.bool true) ∧ Chg nob w1 w')) := by
        intro wx hc
        refine (probe_works wx).mono ?_
        rintro e w' ⟨he, hc2⟩
        exact ⟨he, hc.thenNew hc2⟩
      have hcc := (Chg.refl nob w1).drew
      clear hli hrow hat htk hrn p0 p1 p2 hr8
      have hend : (j < nl ∧ ¬ j < 60) ∨ ¬ j < nl := by omega
      rcases hend with ⟨e1, e2⟩ | e1
      · have b1 : (j : Int) < (nl : Int) := by omega
        have b2 : ¬ (j : Int) < 60 := by omega
        clear hlt1
        go_wp2
        go_region_held3 (fun w' => w'.cell? ⟨g2, 0, none⟩ = some (.slice A2 rn c2)) (exact Chg.cell (by assumption) HP0.out (not_nob _))
          (first | (go_at_call 13; refine (HLI.out _ (by assumption)).mono ?_; rintro e w' ⟨B1, d1, rfl, hq, hB⟩; rw [HRN.out]) | (go_at_call 12; refine (HWK.out _ (by assumption)).mono ?_; rintro e w' ⟨rfl, hq2⟩) | (go_at_call 21; refine (HS.out _ _ _ (by assumption) (by assumption)).mono ?_; rintro e w' ⟨rfl, hq2⟩))
        all_goals
          go_wp2
          go_ret
          exact ⟨rfl, HCH.out.thenNew (by assumption)⟩
      · have b1 : ¬ (j : Int) < (nl : Int) := by omega
        clear hlt1
        go_wp2
        go_region_held3 (fun w' => w'.cell? ⟨g2, 0, none⟩ = some (.slice A2 rn c2)) (exact Chg.cell (by assumption) HP0.out (not_nob _))
          (first | (go_at_call 13; refine (HLI.out _ (by assumption)).mono ?_; rintro e w' ⟨B1, d1, rfl, hq, hB⟩; rw [HRN.out]) | (go_at_call 12; refine (HWK.out _ (by assumption)).mono ?_; rintro e w' ⟨rfl, hq2⟩) | (go_at_call 21; refine (HS.out _ _ _ (by assumption) (by assumption)).mono ?_; rintro e w' ⟨rfl, hq2⟩))
        all_goals
          go_wp2
          go_ret
          exact ⟨rfl, HCH.out.thenNew (by assumption)⟩
end Go.Proofs.Ytoiikjojknnobaa
