/- The law FieldReads: the walk. -/
import Derived.Test.YticbffoclnjciaaFieldStep
namespace Go.Proofs.Yticbffoclnjciaa
open Go.RowKit
set_option linter.unusedVariables false
attribute [local go_sem ↓] Go.wp_at_zero Go.wp_at_succ
abbrev stepK : Kd (Int × Int × Int × Int) :=
  Kd.pair (Kd.such (Kd.int .i64) (fun x => (Lit.int .i64 x).wf = true)) (Kd.pair (Kd.such (Kd.int .i64) (fun x => (Lit.int .i64 x).wf = true)) (Kd.pair (Kd.such (Kd.int .i64) (fun x => (Lit.int .i64 x).wf = true)) (Kd.such (Kd.int .u64) (fun x => (Lit.int .u64 x).wf = true))))
theorem stepK_at {w : World} {ok : Nat → Prop} {A : Option Addr} {ss : List (Int × Int × Int × Int)} (h : stepK.C w ok A ss) {j : Nat} {x : Int × Int × Int × Int} (hx : ss[j]? = some x) :
    ∃ b o, A = some ⟨b, o, none⟩ ∧ (w.cell? ⟨b, o + j * 4, none⟩ = some (.int .i64 x.1) ∧ w.cell? ⟨b, o + j * 4 + 1, none⟩ = some (.int .i64 x.2.1) ∧ w.cell? ⟨b, o + j * 4 + 2, none⟩ = some (.int .i64 x.2.2.1) ∧ w.cell? ⟨b, o + j * 4 + 3, none⟩ = some (.int .u64 x.2.2.2)) ∧
      (-9223372036854775808 ≤ x.2.1 ∧ x.2.1 ≤ 9223372036854775807) ∧ (-9223372036854775808 ≤ x.2.2.1 ∧ x.2.2.1 ≤ 9223372036854775807) ∧ (0 ≤ x.2.2.2 ∧ x.2.2.2 < 18446744073709551616) := by
  obtain ⟨b, o, c, e, ho, hk, hc⟩ := Kd.C_at' h hx
  obtain ⟨c0, _, rfl, ⟨h0, _⟩, c1, _, rfl, ⟨h1, r1⟩, c2, c3, rfl, ⟨h2, r2⟩, ⟨h3, r3⟩⟩ := hk
  have h0' : c0 = [.int .i64 x.1] := h0
  have h1' : c1 = [.int .i64 x.2.1] := h1
  have h2' : c2 = [.int .i64 x.2.2.1] := h2
  have h3' : c3 = [.int .u64 x.2.2.2] := h3
  subst h0' h1' h2' h3'
  have q1 := wf_i64 r1
  have q2 := wf_i64 r2
  have q3 := wf_u64 r3
  exact ⟨b, o, e, ⟨hc 0 _ rfl, hc 1 _ rfl, hc 2 _ rfl, hc 3 _ rfl⟩, ⟨by omega, by omega⟩, ⟨by omega, by omega⟩, ⟨by omega, by omega⟩⟩
theorem read_elem {w0 w : World} {g g2 : Nat} {bs : List UInt8} {e b o : Nat} {ss : List (Int × Int × Int × Int)} (hs : stepK.C w0 (fun b => b < w0.heap.size) (some ⟨b, o, none⟩) ss) {j : Nat} {x : Int × Int × Int × Int} (hx : ss[j]? = some x) (h : ReadSt w0 g g2 bs e w) :
    w.cell? ⟨b, o + j * 4, none⟩ = some (.int .i64 x.1) ∧ w.cell? ⟨b, o + j * 4 + 1, none⟩ = some (.int .i64 x.2.1) ∧ w.cell? ⟨b, o + j * 4 + 2, none⟩ = some (.int .i64 x.2.2.1) ∧ w.cell? ⟨b, o + j * 4 + 3, none⟩ = some (.int .u64 x.2.2.2) := by
  obtain ⟨b', o', e, h0, _⟩ := stepK_at (Kd.C_new hs h.chg) hx
  cases e
  exact h0
theorem ReadSt.new {w0 w w' : World} {g g2 : Nat} {bs : List UInt8} {e : Nat} (h : ReadSt w0 g g2 bs e w) (hc : Chg nob w w') : ReadSt w0 g g2 bs e w' :=
  ⟨h.rd.chg hc (fun b _ => not_nob b), h.rr.new hc, h.hg2, h.len, h.chg.thenNew hc⟩
theorem read_start {w w1 : World} {g : Nat} {A : Option Addr} {m c : Nat} {bs : List UInt8} (hb : Kd.byte.C w (fun b => b < w.heap.size) A bs) (hm : bs.length = m) (hl : m ≤ 1000000000) (hmc : m ≤ c) (h : IsRdAt w1 (fun b => w.heap.size ≤ b) g true bs 0) (hc : Chg nob w w1) :
    ReadSt w g w1.heap.size bs 0 (w1.alloc (.cells #[.slice A m c, .int .i64 0] 58)) := by
  have h9 := heap_alloc_new w1 (.cells #[.slice A m c, .int .i64 0] 58)
  have h2 : Chg nob w1 (w1.alloc (.cells #[.slice A m c, .int .i64 0] 58)) := (Chg.refl _ _).alloc _
  have hs := hc.size
  subst hm
  exact ⟨(h.bound.chg h2 (fun b _ => not_nob b)).mono (fun b hb => ⟨hb.1, by omega⟩), ⟨by omega, A, c, h9, hmc, Kd.C_new hb (hc.thenNew h2)⟩, by omega, hl, hc.thenNew h2⟩
theorem pick0 {o : Oper} {l : List Oper} : (o :: l).toArray[0]? = some o := rfl
theorem pickS {o x : Oper} {l : List Oper} {i : Nat} (h : l.toArray[i]? = some x) : (o :: l).toArray[i + 1]? = some x := by simpa using h
theorem wpAnyH_weaken {P : Program} {ops : Array Oper} {Q : Exit → Act → World → Prop} {md : Region.Mode} {S S' : World → Prop} (hs : ∀ w, S' w → S w) : ∀ (fuel : Nat) (listed : Array Bool) (a : Act) (w : World), wpAnyH P md ops Q S' fuel listed a w → wpAnyH P md ops Q S fuel listed a w
  | 0, _, _, _, h => h
  | fuel + 1, _, _, _, h => ⟨h.1, fun i hi => wpOp_mono (fun a' w' h' => ⟨hs _ h'.1, wpAnyH_weaken hs fuel _ a' w' h'.2⟩) (h.2 i hi)⟩
set_option maxRecDepth 100000 in
set_option maxHeartbeats 4000000 in
theorem fieldReads_walk {w : World} {A : Option Addr} {m c : Nat} {bs : List UInt8} (hb : Kd.byte.C w (fun b => b < w.heap.size) A bs) (hm : bs.length = m) (hl : m ≤ 1000000000) (hmc : m ≤ c)
    {B : Option Addr} {cs : Nat} {ss : List (Int × Int × Int × Int)} (hs : stepK.C w (fun b => b < w.heap.size) B ss) :
    Calls Try.prog 5 #[.slice A m c, .slice B ss.length cs] w fun e w' => e = .returned (.bool true) ∧ Chg nob w w' := by
  have HB := Lib.hid hb
  have HM := Lib.hid hm
  clear hb hm
  go_enter Try.func5, Try.ntmps5
  go_wp2_with fail
  refine (field_works w).mono ?_
  rintro x w1 ⟨rfl, hc1⟩
  go_wp2_with fail
  refine (rd_read (Kd.C_new HB.out hc1) HM.out hl).mono ?_
  rintro x w2 ⟨g, rfl, hd, hc2⟩
  have h0 := read_start HB.out HM.out hl hmc (hd.mono (fun b hb => Nat.le_trans hc1.size hb)) (hc1.thenNew hc2)
  have hsm := hs.small
  have HS := Lib.hid hs
  clear hd hc1 hc2 hs
  generalize hn : ss.length = n at *
  have HN := Lib.hid hn
  clear hn
  go_wp2
  generalize hg2 : w2.heap.size = g2 at h0 ⊢
  generalize w2.alloc (.cells #[.slice A m c, .int .i64 0] 58) = w3 at h0 ⊢
  clear hg2
  go_loopw [7] (fun i wr => ∃ j : Nat, ∃ bs' e', j ≤ n ∧ i = .int .i64 j ∧ ReadSt w g g2 bs' e' wr) (fun i _ => n - (intOf i).toNat)
  case atStart => exact ⟨0, _, _, Nat.zero_le _, rfl, h0⟩
  case round =>
    obtain ⟨j, bs', e', hj, rfl, hst⟩ := hrel
    clear h0
    by_cases hlt : j < n ∧ j < 60
    · obtain ⟨hl1, hl2⟩ := hlt
      obtain ⟨x, hx⟩ : ∃ x, ss[j]? = some x := ⟨_, List.getElem?_eq_getElem (by rw [HN.out]; exact hl1)⟩
      obtain ⟨sb, so, rfl, _, r1, r2, r3, r4⟩ := stepK_at (Kd.C_new HS.out hst.chg) hx
      obtain ⟨x0, x1, x2, x3⟩ := x
      simp only at r1 r2 r3 r4
      obtain ⟨y3, rfl⟩ := Int.eq_ofNat_of_zero_le r3
      have r5 : y3 < 18446744073709551616 := by omega
      have R1 := Lib.hid r1
      have R2 := Lib.hid r2
      have b1 : (0 : Int) ≤ (j : Int) := by omega
      have b2 : (j : Int) < (n : Int) := by omega
      have hst' := hst.new ((Chg.refl _ _).drew)
      clear r1 r2 r3 r4
      go_wp2
      refine wp_region_held_drew (S := (fun w' : World => w'.cell? ⟨sb, so + j * 4, none⟩ = some (.int .i64 x0) ∧ w'.cell? ⟨sb, so + j * 4 + 1, none⟩ = some (.int .i64 x1) ∧ w'.cell? ⟨sb, so + j * 4 + 2, none⟩ = some (.int .i64 x2) ∧ w'.cell? ⟨sb, so + j * 4 + 3, none⟩ = some (.int .u64 y3))) (by kernel_rfl) (read_elem HS.out hx hst') (fun hHeld => ?_)
      refine wpAnyH_take (i := 0) (v := ?_) pick0 (by kernel_rfl) (by kernel_rfl) (by kernel_rfl) (fun _ _ _ h => h) (Or.inl ⟨by rfl, ?_⟩) (by assumption) ?_
      rotate_left 1
      · (intro w hSw; (try dsimp only at hSw); go_simp; try with_reducible rfl)
      try simp only [Act.put, List.setIfInBounds_toArray, List.set_cons_zero, List.set_cons_succ]
      refine wpAnyH_take (i := 1) (v := ?_) (pickS pick0) (by kernel_rfl) (by kernel_rfl) (by kernel_rfl) (fun _ _ _ h => h) (Or.inl ⟨by rfl, ?_⟩) (by assumption) ?_
      rotate_left 1
      · (intro w hSw; (try dsimp only at hSw); go_simp; try with_reducible rfl)
      try simp only [Act.put, List.setIfInBounds_toArray, List.set_cons_zero, List.set_cons_succ]
      refine wpAnyH_take (i := 2) (v := ?_) (pickS (pickS pick0)) (by kernel_rfl) (by kernel_rfl) (by kernel_rfl) (fun _ _ _ h => h) (Or.inl ⟨by rfl, ?_⟩) (by assumption) ?_
      rotate_left 1
      · (intro w hSw; (try dsimp only at hSw); go_simp; try with_reducible rfl)
      try simp only [Act.put, List.setIfInBounds_toArray, List.set_cons_zero, List.set_cons_succ]
      refine wpAnyH_take (i := 3) (v := ?_) (pickS (pickS (pickS pick0))) (by kernel_rfl) (by kernel_rfl) (by kernel_rfl) (fun _ _ _ h => h) (Or.inl ⟨by rfl, ?_⟩) (by assumption) ?_
      rotate_left 1
      · (intro w hSw; (try dsimp only at hSw); go_simp; try with_reducible rfl)
      try simp only [Act.put, List.setIfInBounds_toArray, List.set_cons_zero, List.set_cons_succ]
      refine wpAnyH_take (i := 4) (v := ?_) (pickS (pickS (pickS (pickS pick0)))) (by kernel_rfl) (by kernel_rfl) (by kernel_rfl) (fun _ _ _ h => h) (Or.inl ⟨by rfl, ?_⟩) (by assumption) ?_
      rotate_left 1
      · (intro w hSw; (try dsimp only at hSw); go_simp; try with_reducible rfl)
      try simp only [Act.put, List.setIfInBounds_toArray, List.set_cons_zero, List.set_cons_succ]
      refine wpAnyH_take (i := 5) (v := ?_) (pickS (pickS (pickS (pickS (pickS pick0))))) (by kernel_rfl) (by kernel_rfl) (by kernel_rfl) (fun _ _ _ h => h) (Or.inl ⟨by rfl, ?_⟩) (by assumption) ?_
      rotate_left 1
      · (intro w hSw; (try dsimp only at hSw); go_simp; try with_reducible rfl)
      try simp only [Act.put, List.setIfInBounds_toArray, List.set_cons_zero, List.set_cons_succ]
      refine wpAnyH_ready (rs := [6]) (by kernel_rfl) (by simp) ?_
      refine AllReadyH.cons (pickS (pickS (pickS (pickS (pickS (pickS pick0)))))) (fun K hK => ?_) AllReadyH.nil
      go_simp
      go_at_call 28; refine (step_true hst' _ _ _ _ R1.out R2.out r5).mono ?_; rintro e w' ⟨rfl, bs5, e5, hq⟩; obtain ⟨A5, c5, d0, d1, _, _, _, _⟩ := hq.rr.read
      go_wp2_with fail
      refine hK.out _ _ ?_ (fun hHeld => ?_)
      · exact read_elem HS.out hx hq
      clear hK K
      try simp only [Act.put, List.setIfInBounds_toArray, List.set_cons_zero, List.set_cons_succ]
      refine wpAnyH_weaken (S' := (fun w' : World => w'.cell? ⟨sb, so + j * 4, none⟩ = some (.int .i64 x0) ∧ w'.cell? ⟨sb, so + j * 4 + 1, none⟩ = some (.int .i64 x1) ∧ w'.cell? ⟨sb, so + j * 4 + 2, none⟩ = some (.int .i64 x2) ∧ w'.cell? ⟨sb, so + j * 4 + 3, none⟩ = some (.int .u64 y3) ∧ w'.cell? ⟨g2, 0, none⟩ = some (.slice A5 bs5.length c5) ∧ w'.cell? ⟨g2, 1, none⟩ = some (.int .i64 e5))) (fun w h => ⟨h.1, h.2.1, h.2.2.1, h.2.2.2.1⟩) _ _ _ _ ?_
      have hH2 : (fun w' : World => w'.cell? ⟨sb, so + j * 4, none⟩ = some (.int .i64 x0) ∧ w'.cell? ⟨sb, so + j * 4 + 1, none⟩ = some (.int .i64 x1) ∧ w'.cell? ⟨sb, so + j * 4 + 2, none⟩ = some (.int .i64 x2) ∧ w'.cell? ⟨sb, so + j * 4 + 3, none⟩ = some (.int .u64 y3) ∧ w'.cell? ⟨g2, 0, none⟩ = some (.slice A5 bs5.length c5) ∧ w'.cell? ⟨g2, 1, none⟩ = some (.int .i64 e5)) w' := ⟨hHeld.1, hHeld.2.1, hHeld.2.2.1, hHeld.2.2.2, d0, d1⟩
      dsimp only at hH2
      refine wpAnyH_take (i := 7) (v := ?_) (pickS (pickS (pickS (pickS (pickS (pickS (pickS pick0))))))) (by kernel_rfl) (by kernel_rfl) (by kernel_rfl) (fun _ _ _ h => h) (Or.inl ⟨by rfl, ?_⟩) (by assumption) ?_
      rotate_left 1
      · (intro w hSw; (try dsimp only at hSw); go_simp; try with_reducible rfl)
      try simp only [Act.put, List.setIfInBounds_toArray, List.set_cons_zero, List.set_cons_succ]
      refine wpAnyH_take (i := 8) (v := ?_) (pickS (pickS (pickS (pickS (pickS (pickS (pickS (pickS pick0)))))))) (by kernel_rfl) (by kernel_rfl) (by kernel_rfl) (fun _ _ _ h => h) (Or.inl ⟨by rfl, ?_⟩) (by assumption) ?_
      rotate_left 1
      · (intro w hSw; (try dsimp only at hSw); go_simp; try with_reducible rfl)
      try simp only [Act.put, List.setIfInBounds_toArray, List.set_cons_zero, List.set_cons_succ]
      refine wpAnyH_take (i := 9) (v := ?_) (pickS (pickS (pickS (pickS (pickS (pickS (pickS (pickS (pickS pick0))))))))) (by kernel_rfl) (by kernel_rfl) (by kernel_rfl) (fun _ _ _ h => h) (Or.inl ⟨by rfl, ?_⟩) (by assumption) ?_
      rotate_left 1
      · (intro w hSw; (try dsimp only at hSw); go_simp; try with_reducible rfl)
      try simp only [Act.put, List.setIfInBounds_toArray, List.set_cons_zero, List.set_cons_succ]
      refine wpAnyH_take (i := 11) (v := ?_) (pickS (pickS (pickS (pickS (pickS (pickS (pickS (pickS (pickS (pickS (pickS pick0))))))))))) (by kernel_rfl) (by kernel_rfl) (by kernel_rfl) (fun _ _ _ h => h) (Or.inl ⟨by rfl, ?_⟩) (by assumption) ?_
      rotate_left 1
      · (intro w hSw; (try dsimp only at hSw); go_simp; try with_reducible rfl)
      try simp only [Act.put, List.setIfInBounds_toArray, List.set_cons_zero, List.set_cons_succ]
      refine wpAnyH_take (i := 12) (v := ?_) (pickS (pickS (pickS (pickS (pickS (pickS (pickS (pickS (pickS (pickS (pickS (pickS pick0)))))))))))) (by kernel_rfl) (by kernel_rfl) (by kernel_rfl) (fun _ _ _ h => h) (Or.inl ⟨by rfl, ?_⟩) (by assumption) ?_
      rotate_left 1
      · (intro w hSw; (try dsimp only at hSw); go_simp; try with_reducible rfl)
      try simp only [Act.put, List.setIfInBounds_toArray, List.set_cons_zero, List.set_cons_succ]
      refine wpAnyH_take (i := 13) (v := ?_) (pickS (pickS (pickS (pickS (pickS (pickS (pickS (pickS (pickS (pickS (pickS (pickS (pickS pick0))))))))))))) (by kernel_rfl) (by kernel_rfl) (by kernel_rfl) (fun _ _ _ h => h) (Or.inl ⟨by rfl, ?_⟩) (by assumption) ?_
      rotate_left 1
      · (intro w hSw; (try dsimp only at hSw); go_simp; try with_reducible rfl)
      try simp only [Act.put, List.setIfInBounds_toArray, List.set_cons_zero, List.set_cons_succ]
      refine wpAnyH_take (i := 14) (v := ?_) (pickS (pickS (pickS (pickS (pickS (pickS (pickS (pickS (pickS (pickS (pickS (pickS (pickS (pickS pick0)))))))))))))) (by kernel_rfl) (by kernel_rfl) (by kernel_rfl) (fun _ _ _ h => h) (Or.inl ⟨by rfl, ?_⟩) (by assumption) ?_
      rotate_left 1
      · (intro w hSw; (try dsimp only at hSw); go_simp; try with_reducible rfl)
      try simp only [Act.put, List.setIfInBounds_toArray, List.set_cons_zero, List.set_cons_succ]
      refine wpAnyH_take (i := 15) (v := ?_) (pickS (pickS (pickS (pickS (pickS (pickS (pickS (pickS (pickS (pickS (pickS (pickS (pickS (pickS (pickS pick0))))))))))))))) (by kernel_rfl) (by kernel_rfl) (by kernel_rfl) (fun _ _ _ h => h) (Or.inl ⟨by rfl, ?_⟩) (by assumption) ?_
      rotate_left 1
      · (intro w hSw; (try dsimp only at hSw); go_simp; try with_reducible rfl)
      try simp only [Act.put, List.setIfInBounds_toArray, List.set_cons_zero, List.set_cons_succ]
      refine wpAnyH_ready (rs := [10]) (by kernel_rfl) (by simp) ?_
      refine AllReadyH.cons (pickS (pickS (pickS (pickS (pickS (pickS (pickS (pickS (pickS (pickS pick0)))))))))) (fun K hK => ?_) AllReadyH.nil
      go_simp
      go_at_call 24; refine (rd_left (.inl ⟨g, rfl, hq.rd⟩)).mono ?_; rintro e w' ⟨rfl, rfl⟩
      go_wp2_with fail
      refine hK.out _ _ ?_ (fun hHeld => ?_)
      · exact hH2
      clear hK K
      try simp only [Act.put, List.setIfInBounds_toArray, List.set_cons_zero, List.set_cons_succ]
      refine wpAnyH_take (i := 16) (v := ?_) (pickS (pickS (pickS (pickS (pickS (pickS (pickS (pickS (pickS (pickS (pickS (pickS (pickS (pickS (pickS (pickS pick0)))))))))))))))) (by kernel_rfl) (by kernel_rfl) (by kernel_rfl) (fun _ _ _ h => h) (Or.inl ⟨by rfl, ?_⟩) (by assumption) ?_
      rotate_left 1
      · (intro w hSw; (try dsimp only at hSw); go_simp; try with_reducible rfl)
      try simp only [Act.put, List.setIfInBounds_toArray, List.set_cons_zero, List.set_cons_succ]
      refine wpAnyH_take (i := 17) (v := ?_) (pickS (pickS (pickS (pickS (pickS (pickS (pickS (pickS (pickS (pickS (pickS (pickS (pickS (pickS (pickS (pickS (pickS pick0))))))))))))))))) (by kernel_rfl) (by kernel_rfl) (by kernel_rfl) (fun _ _ _ h => h) (Or.inl ⟨by rfl, ?_⟩) (by assumption) ?_
      rotate_left 1
      · (intro w hSw; (try dsimp only at hSw); go_simp; try with_reducible rfl)
      try simp only [Act.put, List.setIfInBounds_toArray, List.set_cons_zero, List.set_cons_succ]
      refine wpAnyH_take (i := 18) (v := ?_) (pickS (pickS (pickS (pickS (pickS (pickS (pickS (pickS (pickS (pickS (pickS (pickS (pickS (pickS (pickS (pickS (pickS (pickS pick0)))))))))))))))))) (by kernel_rfl) (by kernel_rfl) (by kernel_rfl) (fun _ _ _ h => h) (Or.inl ⟨by rfl, ?_⟩) (by assumption) ?_
      rotate_left 1
      · (intro w hSw; (try dsimp only at hSw); go_simp; try with_reducible rfl)
      try simp only [Act.put, List.setIfInBounds_toArray, List.set_cons_zero, List.set_cons_succ]
      refine wpAnyH_take (i := 19) (v := ?_) (pickS (pickS (pickS (pickS (pickS (pickS (pickS (pickS (pickS (pickS (pickS (pickS (pickS (pickS (pickS (pickS (pickS (pickS (pickS pick0))))))))))))))))))) (by kernel_rfl) (by kernel_rfl) (by kernel_rfl) (fun _ _ _ h => h) (Or.inl ⟨by rfl, ?_⟩) (by assumption) ?_
      rotate_left 1
      · (intro w hSw; (try dsimp only at hSw); go_simp; try with_reducible rfl)
      try simp only [Act.put, List.setIfInBounds_toArray, List.set_cons_zero, List.set_cons_succ]
      refine wpAnyH_take (i := 21) (v := ?_) (pickS (pickS (pickS (pickS (pickS (pickS (pickS (pickS (pickS (pickS (pickS (pickS (pickS (pickS (pickS (pickS (pickS (pickS (pickS (pickS (pickS pick0))))))))))))))))))))) (by kernel_rfl) (by kernel_rfl) (by kernel_rfl) (fun _ _ _ h => h) (Or.inl ⟨by rfl, ?_⟩) (by assumption) ?_
      rotate_left 1
      · (intro w hSw; (try dsimp only at hSw); go_simp; try with_reducible rfl)
      try simp only [Act.put, List.setIfInBounds_toArray, List.set_cons_zero, List.set_cons_succ]
      refine wpAnyH_take (i := 22) (v := ?_) (pickS (pickS (pickS (pickS (pickS (pickS (pickS (pickS (pickS (pickS (pickS (pickS (pickS (pickS (pickS (pickS (pickS (pickS (pickS (pickS (pickS (pickS pick0)))))))))))))))))))))) (by kernel_rfl) (by kernel_rfl) (by kernel_rfl) (fun _ _ _ h => h) (Or.inl ⟨by rfl, ?_⟩) (by assumption) ?_
      rotate_left 1
      · (intro w hSw; (try dsimp only at hSw); go_simp; try with_reducible rfl)
      try simp only [Act.put, List.setIfInBounds_toArray, List.set_cons_zero, List.set_cons_succ]
      refine wpAnyH_take (i := 23) (v := ?_) (pickS (pickS (pickS (pickS (pickS (pickS (pickS (pickS (pickS (pickS (pickS (pickS (pickS (pickS (pickS (pickS (pickS (pickS (pickS (pickS (pickS (pickS (pickS pick0))))))))))))))))))))))) (by kernel_rfl) (by kernel_rfl) (by kernel_rfl) (fun _ _ _ h => h) (Or.inl ⟨by rfl, ?_⟩) (by assumption) ?_
      rotate_left 1
      · (intro w hSw; (try dsimp only at hSw); go_simp; try with_reducible rfl)
      try simp only [Act.put, List.setIfInBounds_toArray, List.set_cons_zero, List.set_cons_succ]
      refine wpAnyH_take (i := 24) (v := ?_) (pickS (pickS (pickS (pickS (pickS (pickS (pickS (pickS (pickS (pickS (pickS (pickS (pickS (pickS (pickS (pickS (pickS (pickS (pickS (pickS (pickS (pickS (pickS (pickS pick0)))))))))))))))))))))))) (by kernel_rfl) (by kernel_rfl) (by kernel_rfl) (fun _ _ _ h => h) (Or.inl ⟨by rfl, ?_⟩) (by assumption) ?_
      rotate_left 1
      · (intro w hSw; (try dsimp only at hSw); go_simp; try with_reducible rfl)
      try simp only [Act.put, List.setIfInBounds_toArray, List.set_cons_zero, List.set_cons_succ]
      refine wpAnyH_ready (rs := [20]) (by kernel_rfl) (by simp) ?_
      refine AllReadyH.cons (pickS (pickS (pickS (pickS (pickS (pickS (pickS (pickS (pickS (pickS (pickS (pickS (pickS (pickS (pickS (pickS (pickS (pickS (pickS (pickS pick0)))))))))))))))))))) (fun K hK => ?_) AllReadyH.nil
      go_simp
      go_at_call 25; refine (rd_wrong (.inl ⟨g, rfl, hq.rd⟩)).mono ?_; rintro e w' ⟨rfl, rfl⟩
      go_wp2_with fail
      refine hK.out _ _ ?_ (fun hHeld => ?_)
      · exact hH2
      clear hK K
      try simp only [Act.put, List.setIfInBounds_toArray, List.set_cons_zero, List.set_cons_succ]
      refine wpAnyH_take (i := 25) (v := ?_) (pickS (pickS (pickS (pickS (pickS (pickS (pickS (pickS (pickS (pickS (pickS (pickS (pickS (pickS (pickS (pickS (pickS (pickS (pickS (pickS (pickS (pickS (pickS (pickS (pickS pick0))))))))))))))))))))))))) (by kernel_rfl) (by kernel_rfl) (by kernel_rfl) (fun _ _ _ h => h) (Or.inl ⟨by rfl, ?_⟩) (by assumption) ?_
      rotate_left 1
      · (intro w hSw; (try dsimp only at hSw); go_simp; try with_reducible rfl)
      try simp only [Act.put, List.setIfInBounds_toArray, List.set_cons_zero, List.set_cons_succ]
      refine wpAnyH_take (i := 26) (v := ?_) (pickS (pickS (pickS (pickS (pickS (pickS (pickS (pickS (pickS (pickS (pickS (pickS (pickS (pickS (pickS (pickS (pickS (pickS (pickS (pickS (pickS (pickS (pickS (pickS (pickS (pickS pick0)))))))))))))))))))))))))) (by kernel_rfl) (by kernel_rfl) (by kernel_rfl) (fun _ _ _ h => h) (Or.inl ⟨by rfl, ?_⟩) (by assumption) ?_
      rotate_left 1
      · (intro w hSw; (try dsimp only at hSw); go_simp; try with_reducible rfl)
      try simp only [Act.put, List.setIfInBounds_toArray, List.set_cons_zero, List.set_cons_succ]
      refine wpAnyH_take (i := 27) (v := ?_) (pickS (pickS (pickS (pickS (pickS (pickS (pickS (pickS (pickS (pickS (pickS (pickS (pickS (pickS (pickS (pickS (pickS (pickS (pickS (pickS (pickS (pickS (pickS (pickS (pickS (pickS (pickS pick0))))))))))))))))))))))))))) (by kernel_rfl) (by kernel_rfl) (by kernel_rfl) (fun _ _ _ h => h) (Or.inl ⟨by rfl, ?_⟩) (by assumption) ?_
      rotate_left 1
      · (intro w hSw; (try dsimp only at hSw); go_simp; try with_reducible rfl)
      try simp only [Act.put, List.setIfInBounds_toArray, List.set_cons_zero, List.set_cons_succ]
      refine wpAnyH_take (i := 28) (v := ?_) (pickS (pickS (pickS (pickS (pickS (pickS (pickS (pickS (pickS (pickS (pickS (pickS (pickS (pickS (pickS (pickS (pickS (pickS (pickS (pickS (pickS (pickS (pickS (pickS (pickS (pickS (pickS (pickS pick0)))))))))))))))))))))))))))) (by kernel_rfl) (by kernel_rfl) (by kernel_rfl) (fun _ _ _ h => h) (Or.inl ⟨by rfl, ?_⟩) (by assumption) ?_
      rotate_left 1
      · (intro w hSw; (try dsimp only at hSw); go_simp; try with_reducible rfl)
      try simp only [Act.put, List.setIfInBounds_toArray, List.set_cons_zero, List.set_cons_succ]
      refine wpAnyH_take (i := 30) (v := ?_) (pickS (pickS (pickS (pickS (pickS (pickS (pickS (pickS (pickS (pickS (pickS (pickS (pickS (pickS (pickS (pickS (pickS (pickS (pickS (pickS (pickS (pickS (pickS (pickS (pickS (pickS (pickS (pickS (pickS (pickS pick0)))))))))))))))))))))))))))))) (by kernel_rfl) (by kernel_rfl) (by kernel_rfl) (fun _ _ _ h => h) (Or.inl ⟨by rfl, ?_⟩) (by assumption) ?_
      rotate_left 1
      · (intro w hSw; (try dsimp only at hSw); go_simp; try with_reducible rfl)
      try simp only [Act.put, List.setIfInBounds_toArray, List.set_cons_zero, List.set_cons_succ]
      refine wpAnyH_ready (rs := [29]) (by kernel_rfl) (by simp) ?_
      refine AllReadyH.cons (pickS (pickS (pickS (pickS (pickS (pickS (pickS (pickS (pickS (pickS (pickS (pickS (pickS (pickS (pickS (pickS (pickS (pickS (pickS (pickS (pickS (pickS (pickS (pickS (pickS (pickS (pickS (pickS (pickS pick0))))))))))))))))))))))))))))) (fun K hK => ?_) AllReadyH.nil
      go_simp
      go_at_call 26; refine (rd_done (.inl ⟨g, rfl, hq.rd⟩)).mono ?_; rintro e w' ⟨rfl, rfl⟩
      go_wp2_with fail
      refine hK.out _ _ ?_ (fun hHeld => ?_)
      · exact hH2
      clear hK K
      try simp only [Act.put, List.setIfInBounds_toArray, List.set_cons_zero, List.set_cons_succ]
      refine wpAnyH_ready (rs := [31]) (by kernel_rfl) (by simp) ?_
      refine AllReadyH.cons (pickS (pickS (pickS (pickS (pickS (pickS (pickS (pickS (pickS (pickS (pickS (pickS (pickS (pickS (pickS (pickS (pickS (pickS (pickS (pickS (pickS (pickS (pickS (pickS (pickS (pickS (pickS (pickS (pickS (pickS (pickS pick0))))))))))))))))))))))))))))))) (fun K hK => ?_) AllReadyH.nil
      go_simp
      go_at_call 29; refine (rr_done hq.rr).mono ?_; rintro e w' ⟨rfl, rfl⟩
      go_wp2_with fail
      refine hK.out _ _ ?_ (fun hHeld => ?_)
      · exact hH2
      clear hK K
      try simp only [Act.put, List.setIfInBounds_toArray, List.set_cons_zero, List.set_cons_succ]
      refine wpAnyH_take (i := 32) (v := ?_) (pickS (pickS (pickS (pickS (pickS (pickS (pickS (pickS (pickS (pickS (pickS (pickS (pickS (pickS (pickS (pickS (pickS (pickS (pickS (pickS (pickS (pickS (pickS (pickS (pickS (pickS (pickS (pickS (pickS (pickS (pickS (pickS pick0)))))))))))))))))))))))))))))))) (by kernel_rfl) (by kernel_rfl) (by kernel_rfl) (fun _ _ _ h => h) (Or.inl ⟨by rfl, ?_⟩) (by assumption) ?_
      rotate_left 1
      · (intro w hSw; (try dsimp only at hSw); go_simp; try with_reducible rfl)
      try simp only [Act.put, List.setIfInBounds_toArray, List.set_cons_zero, List.set_cons_succ]
      refine wpAnyH_take (i := 33) (v := ?_) (pickS (pickS (pickS (pickS (pickS (pickS (pickS (pickS (pickS (pickS (pickS (pickS (pickS (pickS (pickS (pickS (pickS (pickS (pickS (pickS (pickS (pickS (pickS (pickS (pickS (pickS (pickS (pickS (pickS (pickS (pickS (pickS (pickS pick0))))))))))))))))))))))))))))))))) (by kernel_rfl) (by kernel_rfl) (by kernel_rfl) (fun _ _ _ h => h) (Or.inl ⟨by rfl, ?_⟩) (by assumption) ?_
      rotate_left 1
      · (intro w hSw; (try dsimp only at hSw); go_simp; try with_reducible rfl)
      try simp only [Act.put, List.setIfInBounds_toArray, List.set_cons_zero, List.set_cons_succ]
      refine wpAnyH_done (by kernel_rfl) ?_ _
      all_goals
        go_wp2
        exact ⟨⟨j + 1, _, _, by omega, by go_num, hq⟩, by simp [intOf]; omega⟩
    · have hst' := hst.new ((Chg.refl _ _).drew)
      obtain ⟨A5, c5, d0, _, _, _, _, _⟩ := hst'.rr.read
      have hcell : ∀ wx, ReadSt w g g2 bs' e' wx → wx = wr.drew → wx.cell? ⟨g2, 0, none⟩ = some (.slice A5 bs'.length c5) := fun wx _ he => by rw [he]; exact d0
      by_cases h60 : j < 60
      · have hjn : ¬ j < n := fun h => hlt ⟨h, h60⟩
        go_wp2
        go_region_held3 (fun w' => w'.cell? ⟨g2, 0, none⟩ = some (.slice A5 bs'.length c5)) (assumption)
          (first | (go_at_call 24; refine (rd_left (.inl ⟨g, rfl, hst'.rd⟩)).mono ?_; rintro e w' ⟨rfl, rfl⟩) | (go_at_call 26; refine (rd_done (.inl ⟨g, rfl, hst'.rd⟩)).mono ?_; rintro e w' ⟨rfl, rfl⟩) | (go_at_call 29; refine (rr_done hst'.rr).mono ?_; rintro e w' ⟨rfl, rfl⟩))
        go_wp2
        go_ret
        exact ⟨rfl, hst'.chg⟩
      · go_wp2
        all_goals
          go_region_held3 (fun w' => w'.cell? ⟨g2, 0, none⟩ = some (.slice A5 bs'.length c5)) (assumption)
            (first | (go_at_call 24; refine (rd_left (.inl ⟨g, rfl, hst'.rd⟩)).mono ?_; rintro e w' ⟨rfl, rfl⟩) | (go_at_call 26; refine (rd_done (.inl ⟨g, rfl, hst'.rd⟩)).mono ?_; rintro e w' ⟨rfl, rfl⟩) | (go_at_call 29; refine (rr_done hst'.rr).mono ?_; rintro e w' ⟨rfl, rfl⟩))
          go_wp2
          go_ret
          exact ⟨rfl, hst'.chg⟩
end Go.Proofs.Yticbffoclnjciaa
