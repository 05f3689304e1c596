/- Frames: appends of frames and of whole numbers; the reference's All. -/
import Derived.Test.YtmahjeafoogamaaFrameEnd
import Derived.Test.YtmahjeafoogamaaTornLaws
import Derived.Test.YtmahjeafoogamaaFrameKd
namespace Go.Proofs.Ytmahjeafoogamaa
open Go.RowKit
set_option linter.unusedVariables false
set_option linter.unusedSimpArgs false
theorem fr_info : (Try.prog.info? 28).map (fun i => (i.zero, i.size, i.bytes)) = some (some (.agg #[.int .u8 0, .slice none 0 0]), 2, 32) := by kernel_rfl
theorem int_info : (Try.prog.info? 3).map (fun i => (i.zero, i.size, i.bytes)) = some (some (.int .i64 0), 1, 8) := by kernel_rfl
section
variable {ops : Array Oper} {rest : List Oper} {o : Oper} {a : Act} {Q : Exit → Act → World → Prop} {w : World}
/-- append(v, frame) -/
theorem wp_app1Fr (hgd : o.guard = none) (s x : Operand) (ho : o.op = .call { callee := .builtin .append, args := #[s, x], argTypes := #[42, 42] })
    (base : Nat) (ok ok2 : Nat → Prop) (v : Value) (xs : List (UInt8 × List UInt8)) (y : UInt8 × List UInt8) (cs : Array Value) (hs : a.eval s = v) (g : Nat) (hg : w.heap.size = g) (hx : a.eval x = .slice (some ⟨g, 0, none⟩) 1 1)
    (hr : frK.R 28 w base ok v xs) (hy : frK.K w ok2 y cs.toList) (hne : ∀ k, ok2 k → some k ≠ v.ownBlock) (hbase : base ≤ w.heap.size) (len : Nat) (hlen : xs.length + 1 = len) (hl : len ≤ 4398046511104)
    (h : ∀ A' c' w', frK.R 28 w' base (fun k => (ok k ∨ ok2 k ∨ w.heap.size ≤ k) ∧ k < w'.heap.size) (.slice A' len c') (xs ++ [y]) → Chg (fun k => some k = v.ownBlock) w w' → ((Value.slice A' len c').ownBlock = v.ownBlock ∨ ∃ k, (Value.slice A' len c').ownBlock = some k ∧ w.heap.size ≤ k) → wpList Try.prog ops Q rest (a.put o.dst (.slice A' len c')) w') :
    wpList Try.prog ops Q (o :: rest) a (w.alloc (.cells cs 28)) :=
  wp_append1 (d := frK) hgd s x 42 ho 28 (.agg #[.int .u8 0, .slice none 0 0]) 32 Try.underlying42 fr_info rfl base ok ok2 v xs y cs hs (by rw [hg]; exact hx) hr hy hne (by unfold maxLen; omega) (by omega) hbase len hlen (fun A' c' w' hR hC hO => h A' c' w' (Kd.R_bound hR) hC hO)
/-- append(v, number) -/
theorem wp_app1Int (hgd : o.guard = none) (s x : Operand) (ho : o.op = .call { callee := .builtin .append, args := #[s, x], argTypes := #[56, 56] })
    (base : Nat) (ok : Nat → Prop) (v : Value) (xs : List Int) (y : Int) (hs : a.eval s = v) (hx : a.eval x = .slice (some ⟨w.heap.size, 0, none⟩) 1 1)
    (hr : (Kd.int .i64).R 3 w base ok v xs) (hbase : base ≤ w.heap.size) (len : Nat) (hlen : xs.length + 1 = len) (hl : len ≤ 4398046511104)
    (h : ∀ A' c' w', (Kd.int .i64).R 3 w' base (fun k => some k = (Value.slice A' len c').ownBlock) (.slice A' len c') (xs ++ [y]) → Chg (fun k => some k = v.ownBlock) w w' → ((Value.slice A' len c').ownBlock = v.ownBlock ∨ ∃ k, (Value.slice A' len c').ownBlock = some k ∧ w.heap.size ≤ k) → wpList Try.prog ops Q rest (a.put o.dst (.slice A' len c')) w') :
    wpList Try.prog ops Q (o :: rest) a (w.alloc (.cells #[.int .i64 y] 3)) :=
  wp_append1F (d := Kd.int .i64) Kd.scalar_flat hgd s x 56 ho 3 (.int .i64 0) 8 Try.underlying56 int_info rfl base ok (fun _ => False) v xs y #[.int .i64 y] hs hx hr rfl (by unfold maxLen; omega) (by omega) hbase len hlen h
end
/-- The places of frames that begin at t. -/
def placesF : Nat → List Fr → List Int
  | _, [] => []
  | t, f :: l => (t : Int) :: placesF (t + (f.2.length + 7)) l
theorem placesF_len : ∀ (t : Nat) (l : List Fr), (placesF t l).length = l.length
  | _, [] => rfl
  | t, f :: l => by rw [placesF, List.length_cons, List.length_cons, placesF_len]
theorem placesF_snoc : ∀ (t : Nat) (l : List Fr) (f : Fr), placesF t (l ++ [f]) = placesF t l ++ [((t + (packB l).length : Nat) : Int)]
  | t, [], f => by simp [placesF, packB]
  | t, g :: l, f => by
    rw [List.cons_append, placesF, placesF_snoc, placesF, List.cons_append, packB_cons, List.length_append, frameB_len]
    congr 3
    congr 1
    omega
/-- Two rows of the call's own: what the first rests on is not the second's row. -/
structure AllSt (w0 : World) (vl vp : Value) (l : List Fr) (w : World) : Prop where
  rows : ∃ ok : Nat → Prop, frK.R 28 w w0.heap.size ok vl l ∧ (∀ k, ok k → some k ≠ vp.ownBlock ∧ k < w.heap.size)
  pl : (Kd.int .i64).R 3 w w0.heap.size (fun k => some k = vp.ownBlock) vp (placesF 0 l)
  chg : Chg nob w0 w
theorem AllSt.new {w0 w w' : World} {vl vp : Value} {l : List Fr} (h : AllSt w0 vl vp l w) (hc : Chg nob w w') : AllSt w0 vl vp l w' := by
  obtain ⟨ok, h1, h2⟩ := h.rows
  exact ⟨⟨ok, Kd.R_new h1 hc, fun k hk => ⟨(h2 k hk).1, Nat.lt_of_lt_of_le (h2 k hk).2 hc.size⟩⟩, Kd.R_new h.pl hc, h.chg.thenNew hc⟩
/-- What All gives. -/
def Alls (w : World) (ok : Nat → Prop) (bs : List UInt8) (e : Ending) (w' : World) : Prop :=
  Chg nob w w' ∧ ∃ (L P : Option Addr) (n cl cp : Nat), n = (allR bs).1.length ∧ n ≤ cl ∧ n ≤ cp ∧ e = .returned (.tuple #[.slice L n cl, .slice P n cp, .int .i64 (((allR bs).2.1 : Nat) : Int), .int .i64 (((allR bs).2.2 : Nat) : Int)]) ∧
    frK.C w' (fun b => b < w'.heap.size) L (allR bs).1 ∧ (Kd.int .i64).C w' (fun b => b < w'.heap.size) P (placesF 0 (allR bs).1)
theorem AllSt.alls {w0 w : World} {ok : Nat → Prop} {L P : Option Addr} {n cl cp e1 e2 : Nat} {l : List Fr} {bs : List UInt8} (h : AllSt w0 (.slice L n cl) (.slice P n cp) l w) (hl : (allR bs).1 = l) (h1 : (allR bs).2.1 = e1) (h2 : (allR bs).2.2 = e2) :
    Alls w0 ok bs (.returned (.tuple #[.slice L n cl, .slice P n cp, .int .i64 e1, .int .i64 e2])) w := by
  obtain ⟨ok', r1, r2⟩ := h.rows
  obtain ⟨k1, k2, k3⟩ := Kd.R_read r1
  obtain ⟨p1, p2, p3⟩ := Kd.R_read h.pl
  subst hl h1 h2
  exact ⟨h.chg, L, P, n, cl, cp, k2.symm, k3, p3, rfl, Kd.C_mono (Kd.C_bound k1) (fun b hb => hb.2), Kd.C_mono (Kd.C_bound p1) (fun b hb => hb.2)⟩
/-- So many frames are read. -/
def readR (bs : List UInt8) (l : List Fr) : Prop := (packB l).length ≤ bs.length ∧ allR bs = (l ++ (allR (bs.drop (packB l).length)).1, (packB l).length + (allR (bs.drop (packB l).length)).2.1, (allR (bs.drop (packB l).length)).2.2)
theorem readR_start (bs : List UInt8) : readR bs [] := ⟨Nat.zero_le _, by simp [packB]⟩
theorem readR_step {bs : List UInt8} {l : List Fr} (h : readR bs l) (hlt : (packB l).length < bs.length) (he : takeE (bs.drop (packB l).length) = 0) : readR bs (l ++ [frOf (bs.drop (packB l).length)]) := by
  obtain ⟨h1, h2⟩ := h
  obtain ⟨_, b2, b3, _, _⟩ := take_back he
  rw [List.length_drop] at b3
  have hlen : (packB (l ++ [frOf (bs.drop (packB l).length)])).length = (packB l).length + (told (bs.drop (packB l).length) + 7) := by rw [packB_snoc, List.length_append, frameB_len, b2]
  refine ⟨by rw [hlen]; omega, ?_⟩
  rw [hlen, h2, allR_step (by rw [List.length_drop]; omega) he, List.drop_drop]
  simp only [List.append_assoc, List.cons_append, List.nil_append, Nat.add_assoc]
theorem readR_end {bs : List UInt8} {l : List Fr} (h : readR bs l) (ht : (packB l).length = bs.length) : (allR bs).1 = l ∧ (allR bs).2.1 = (packB l).length ∧ (allR bs).2.2 = 0 := by
  have e : bs.drop (packB l).length = [] := List.drop_of_length_le (by omega)
  obtain ⟨_, h2⟩ := h
  rw [e, allR_nil] at h2
  rw [h2]
  simp
theorem readR_err {bs : List UInt8} {l : List Fr} (h : readR bs l) (hlt : (packB l).length < bs.length) (he : takeE (bs.drop (packB l).length) ≠ 0) : (allR bs).1 = l ∧ (allR bs).2.1 = (packB l).length ∧ (allR bs).2.2 = takeE (bs.drop (packB l).length) := by
  obtain ⟨_, h2⟩ := h
  rw [allR_err (by rw [List.length_drop]; omega) he] at h2
  rw [h2]
  simp
theorem packB_ge : ∀ (l : List Fr), 7 * l.length ≤ (packB l).length
  | [] => by simp [packB]
  | f :: l => by
    have := packB_ge l
    rw [packB_cons, List.length_append, frameB_len, List.length_cons]
    omega
set_option maxRecDepth 100000 in
set_option maxHeartbeats 4000000 in
theorem fr_all {w : World} {A : Option Addr} {m c : Nat} {bs : List UInt8} (hb : Kd.byte.C w (fun b => b < w.heap.size) A bs) (hm : bs.length = m) (hmc : m ≤ c) (hl : m ≤ 1000000000) :
    Calls Try.prog 58 #[.slice A m c] w (Alls w (fun b => b < w.heap.size) bs) := by
  have HB := Lib.hid hb
  have HM := Lib.hid hm
  have HS0 : Hid (AllSt w (.slice none 0 0) (.slice none 0 0) [] w) := ⟨⟨fun _ => False, Kd.R_nil _ _ _ _ _, fun k hk => hk.elim⟩, Kd.R_nil _ _ _ _ _, Chg.refl _ _⟩
  have HR0 := Lib.hid (readR_start bs)
  clear hb hm
  go_enter Try.func58, Try.ntmps58
  go_wp2
  go_loopw [6, 7, 8] (fun vl vp v wr => ∃ (l : List Fr) (L P : Option Addr) (n cl cp t : Nat), n = l.length ∧ t ≤ m ∧ Hid (t = (packB l).length) ∧ vl = .slice L n cl ∧ vp = .slice P n cp ∧ v = .int .i64 t ∧ Hid (AllSt w (.slice L n cl) (.slice P n cp) l wr) ∧ Hid (readR bs l)) (fun _ _ v _ => m - (intOf v).toNat)
  case atStart => exact ⟨[], none, none, 0, 0, 0, 0, rfl, Nat.zero_le _, rfl, rfl, rfl, rfl, HS0, HR0⟩
  case round =>
    obtain ⟨l, L, P, n, cl, cp, t, hn, ht, HT, rfl, rfl, rfl, HS, HR⟩ := hrel
    clear HS0 HR0
    have HN := Lib.hid hn
    clear hn
    by_cases hlt : t < m
    · have b1 : (t : Int) < (m : Int) := by omega
      have b2 : (t : Int) ≤ (m : Int) := by omega
      have b3 : (0 : Int) ≤ (t : Int) := by omega
      have hcn : ¬ c = t := by omega
      have HBr := Lib.hid (Kd.C_new HB.out HS.out.chg)
      have HD := Lib.hid (C_dropB HBr.out t c (by rw [HM.out]; omega) (by rw [HM.out]; exact hmc))
      rw [if_neg hcn] at HD
      have HDL : Hid ((bs.drop t).length = m - t) := by show _ = _; rw [List.length_drop, HM.out]
      have HLT : Hid (t < bs.length) := by show _ < _; rw [HM.out]; exact hlt
      have hmc' : m - t ≤ c - t := by omega
      have hsm' : m - t ≤ 9223372036854775807 := by omega
      go_wp2_with fail
      refine (fr_take HD.out (fun b hb => Nat.lt_of_lt_of_le hb HS.out.chg.size) HDL.out hmc' hsm').mono ?_
      intro e w2 hT
      by_cases he : takeE (bs.drop t) = 0
      · have HR2 : Hid (readR bs (l ++ [frOf (bs.drop t)])) := by
          have := readR_step HR.out (by rw [← HT.out]; exact HLT.out) (by rw [← HT.out]; exact he)
          rw [← HT.out] at this
          exact this
        obtain ⟨_, hlen, h7, h10, _⟩ := take_back he
        rw [HDL.out] at h7
        obtain ⟨hc2, ⟨hn, _⟩ | ⟨_, A2, c2, rfl, hm2, hC2⟩⟩ := hT
        · exact absurd he hn
        obtain ⟨T, hT2⟩ : ∃ T, told (bs.drop t) = T := ⟨_, rfl⟩
        obtain ⟨F, hF⟩ : ∃ F, frOf (bs.drop t) = F := ⟨_, rfl⟩
        rw [hT2] at h7 hm2 h10 hlen ⊢
        rw [hF] at HR2 hC2 hlen ⊢
        have hc3 := (Chg.refl nob w2).alloc (.cells #[.int .u8 F.1.toNat, .slice A2 T c2] 28)
        obtain ⟨q0, q1⟩ := row2c (heap_alloc_new w2 (.cells #[.int .u8 F.1.toNat, .slice A2 T c2] 28))
        have HFL := Lib.hid hlen
        have HK : Hid (frK.K (w2.alloc (.cells #[.int .u8 F.1.toNat, .slice A2 T c2] 28)) (fun b => b < w.heap.size) F (#[.int .u8 F.1.toNat, .slice A2 T c2] : Array Value).toList) := frK_mk (Kd.C_new hC2 hc3) hlen hm2
        have HS3 := Lib.hid (HS.out.new (hc2.thenNew hc3))
        have HPT : Hid ((packB (l ++ [F])).length = t + (T + 7)) := by show _ = _; rw [packB_snoc, List.length_append, frameB_len, ← HT.out, hlen]
        clear hc2 hc3 hC2 he hT2 hF hlen HBr HD
        obtain ⟨ok1, hR1, hok1⟩ := HS3.out.rows
        have hn7 : 7 * n ≤ t := by rw [HN.out, HT.out]; exact packB_ge l
        have HR1 := Lib.hid hR1
        have HOK1 := Lib.hid hok1
        have HNE : Hid (∀ k, k < w.heap.size → some k ≠ (Value.slice L n cl).ownBlock) := fun k hk e => by have := (Kd.R_own hR1 k e.symm).1; omega
        have HBS := Lib.hid HS3.out.chg.size
        have HLN : Hid (l.length + 1 = n + 1) := by show _ = _; rw [HN.out]
        clear hR1 hok1
        go_wp2_with (at_builtin; refine wp_app1Fr rfl _ _ rfl w.heap.size _ _ (.slice L n cl) l F _ rfl (w2.heap.size + 1) (by simp) rfl HR1.out HK.out HNE.out HBS.out (n + 1) HLN.out (by omega) ?_)
        intro A5 c5 w5 hR5 hC5 hO5
        have hpl := Kd.R_chg HS3.out.pl hC5 (fun k hk e => by
          have hk' : some k = (Value.slice P n cp).ownBlock := hk
          have e' : some k = (Value.slice L n cl).ownBlock := e
          obtain ⟨ho, _⟩ := HR1.out
          exact (HOK1.out k (ho k e'.symm)).1 hk')
        have hcw : Chg nob w w5 := HS3.out.chg.trans hC5 (fun i hi => .inr (Kd.R_own HR1.out i hi.symm).1)
        have hok5 : ∀ k, ((ok1 k ∨ k < w.heap.size ∨ w2.heap.size + 1 ≤ k) ∧ k < w5.heap.size) → some k ≠ (Value.slice P n cp).ownBlock ∧ k < w5.heap.size := by
          rintro k ⟨hk, hk2⟩
          refine ⟨fun e => ?_, hk2⟩
          have hp := Kd.R_own HS3.out.pl k e.symm
          rw [World.size_alloc] at hp
          rcases hk with hk | hk | hk
          · exact (HOK1.out k hk).1 e
          · omega
          · omega
        have HR5 := Lib.hid hR5
        have HPL := Lib.hid hpl
        have HCW := Lib.hid hcw
        have HOK5 := Lib.hid hok5
        have hsz5 := HCW.out.size
        have HLP : Hid ((placesF 0 l).length + 1 = n + 1) := by show _ = _; rw [placesF_len, HN.out]
        have HPS : Hid (placesF 0 l ++ [(t : Int)] = placesF 0 (l ++ [F])) := by show _ = _; rw [placesF_snoc, Nat.zero_add, HT.out]
        clear hR5 hC5 hO5 hpl hcw hok5 q0 q1 HK HS3 HR1 HOK1 HNE HBS HS
        go_wp2_with (at_builtin; refine wp_app1Int rfl _ _ rfl w.heap.size _ (.slice P n cp) (placesF 0 l) (t : Int) rfl rfl HPL.out hsz5 (n + 1) HLP.out (by omega) ?_)
        intro A6 c6 w6 hR6 hC6 hO6
        rw [HPS.out] at hR6
        have HS6 : Hid (AllSt w (.slice A5 (n + 1) c5) (.slice A6 (n + 1) c6) (l ++ [F]) w6) := by
          refine ⟨⟨_, Kd.R_chg HR5.out hC6 (fun k hk e => (HOK5.out k hk).1 e), fun k hk => ⟨fun e => ?_, Nat.lt_of_lt_of_le (HOK5.out k hk).2 hC6.size⟩⟩, hR6, HCW.out.trans hC6 (fun i hi => .inr (Kd.R_own HPL.out i hi.symm).1)⟩
          rcases hO6 with hO6 | ⟨k', hO6, hk'⟩
          · rw [hO6] at e
            exact (HOK5.out k hk).1 e
          · rw [hO6] at e
            cases e
            have := (HOK5.out k hk).2
            omega
        have hsum : (t : Int) + ((T : Int) + 7) = ((t + (T + 7) : Nat) : Int) := by omega
        have HSUM := Lib.hid hsum
        have hw : (t : Int) + ((T : Int) + 7) ≤ 9223372036854775807 := by omega
        have HN6 : Hid (n + 1 = (l ++ [F]).length) := by show _ = _; rw [List.length_append, List.length_singleton, HN.out]
        clear hR6 hC6 hO6 hsum HR5 HPL HCW HOK5 hsz5
        go_wp2
        exact ⟨⟨l ++ [F], A5, A6, n + 1, c5, c6, t + (T + 7), HN6.out, by omega, HPT.out.symm, rfl, rfl, congrArg (fun x : Int => Value.int .i64 x) HSUM.out, HS6, HR2⟩, by simp [intOf]; omega⟩
      · have HE := Lib.hid (readR_err HR.out (by rw [← HT.out]; exact HLT.out) (by rw [← HT.out]; exact he))
        obtain ⟨hc2, ⟨_, rfl⟩ | ⟨hn, _⟩⟩ := hT
        · rw [← HT.out] at HE
          have hE0 : ((takeE (bs.drop t) : Int) == 0) = false := by simp; omega
          have hE1 : ((takeE (bs.drop t) : Int) != 0) = true := by simp [bne, hE0]
          obtain ⟨E, hE⟩ : ∃ E, takeE (bs.drop t) = E := ⟨_, rfl⟩
          rw [hE] at HE hE0 hE1 ⊢
          have HC3 := Lib.hid ((HS.out.new hc2).new ((Chg.refl nob w2).alloc (.cells #[.int .u8 0, .slice none 0 0] 28)))
          clear hc2 he hE HS HBr HD
          go_wp2
          refine bodyPost_ret (by simp [results, Try.results58, go_sem]; rfl) rfl ?_
          exact HC3.out.alls HE.out.1 HE.out.2.1 HE.out.2.2
        · exact absurd hn he
    · have b1 : ¬ (t : Int) < (m : Int) := by omega
      have HE := Lib.hid (readR_end HR.out (by rw [← HT.out, HM.out]; omega))
      rw [← HT.out] at HE
      go_wp2
      refine bodyPost_ret (by simp [results, Try.results58, go_sem]; rfl) rfl ?_
      exact HS.out.alls HE.out.1 HE.out.2.1 HE.out.2.2
end Go.Proofs.Ytmahjeafoogamaa
