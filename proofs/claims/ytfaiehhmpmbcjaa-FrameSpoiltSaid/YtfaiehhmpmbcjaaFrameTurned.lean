/- Frames: some bits of a frame are turned. -/
import Derived.Test.YtfaiehhmpmbcjaaFrameWorks
import Derived.Test.YtfaiehhmpmbcjaaSpoilLaws
import Derived.Test.YtfaiehhmpmbcjaaAppend
import Derived.Outline
namespace Go.Proofs.Ytfaiehhmpmbcjaa
open Go.RowKit
set_option linter.unusedVariables false
set_option linter.unusedSimpArgs false
/-- Block g begins with bytes. -/
def CurSt (w : World) (g : Nat) (l : List UInt8) : Prop := ∃ cur, w.heap[g]? = some (.cells cur 5 (0, 0)) ∧ cur.toList.take l.length = l.map encB
theorem CurSt.cell {w : World} {g : Nat} {l : List UInt8} (h : CurSt w g l) {j : Nat} {x : UInt8} (hx : l[j]? = some x) : w.cell? ⟨g, j, none⟩ = some (.int .u8 x.toNat) := by
  obtain ⟨cur, h1, h2⟩ := h
  obtain ⟨hj, he⟩ := List.getElem?_eq_some_iff.1 hx
  rw [cell_of_row _ _ _ _ _ _ h1, ← Array.getElem?_toList]
  have : (cur.toList.take l.length)[j]? = some (encB x) := by rw [h2, List.getElem?_map, hx]; rfl
  rw [List.getElem?_take, if_pos hj] at this
  exact this
theorem CurSt.loose {w : World} {g : Nat} {l : List UInt8} (h : CurSt w g l) (j : Nat) : w.frozen? ⟨g, j, none⟩ = false := by
  obtain ⟨cur, h1, h2⟩ := h
  simp [World.frozen?, h1]
theorem CurSt.set {w : World} {g : Nat} {l : List UInt8} (h : CurSt w g l) (j : Nat) (x : UInt8) : CurSt (w.setCell ⟨g, j, none⟩ (encB x)) g (l.set j x) := by
  obtain ⟨cur, h1, h2⟩ := h
  refine ⟨cur.setIfInBounds j (encB x), by simp [World.setCell, Array.getElem?_modify, h1], ?_⟩
  rw [List.length_set, List.map_set, ← h2, Array.toList_setIfInBounds, List.take_set]
theorem CurSt.C {w : World} {g : Nat} {l : List UInt8} (h : CurSt w g l) (hl : l.length ≤ 9223372036854775807) : Kd.byte.C w (fun b => b = g) (some ⟨g, 0, none⟩) l := by
  refine ⟨hl, l.map encB, reps_of_scalar l, fun _ => ⟨_, rfl, rfl, fun j u hu => ?_⟩⟩
  rw [List.getElem?_map] at hu
  obtain ⟨x, hx, rfl⟩ := Option.map_eq_some_iff.1 hu
  rw [add_at, Nat.zero_add]
  exact h.cell hx
theorem CurSt.of {w : World} {base : Nat} {ok : Nat → Prop} {A : Option Addr} {m c : Nat} {l : List UInt8} (h : Kd.byte.R 5 w base ok (.slice A m c) l) (hm : l.length = m) (h0 : 0 < m) : ∃ g, A = some ⟨g, 0, none⟩ ∧ base ≤ g ∧ m ≤ c ∧ CurSt w g l := by
  obtain ⟨_, inner, ho, hr⟩ := h
  have hi := reps_scalar hr
  rcases ho.2 with ⟨he, h1⟩ | ⟨g, cap, cur, hv, hg, h1, hc, _, _, ht⟩
  · omega
  · injection hv with e1 e2 e3
    subst e1 e3
    refine ⟨g, rfl, hg, by omega, cur, h1, ?_⟩
    rw [show Kd.byte.sz = 1 from rfl, Nat.mul_one] at ht
    rw [ht, hi]
    rfl
theorem CurSt.drew {w : World} {g : Nat} {l : List UInt8} (h : CurSt w g l) : CurSt w.drew g l := h
/-- From where, and how many. -/
def fromT (at_ : Int) (m : Nat) : Nat := (at_ % 18446744073709551616).toNat % (8 * m)
theorem shr128 (r : Nat) (hr : r < 8) (y : UInt8) : Value.int .u8 (Go.bits .xor .u8 (y.toNat : Int) (128 / 2 ^ r)) = encB (y ^^^ oneBit r) := by
  have h1 : (oneBit r).toNat = 128 / 2 ^ r := by
    unfold oneBit
    rw [UInt8.toNat_ofNat_of_lt' (Nat.lt_of_le_of_lt (Nat.div_le_self _ _) (by decide))]
  unfold encB
  rw [show ((128 : Int) / 2 ^ r) = ((oneBit r).toNat : Int) from by rw [h1]; simp, u8_xor_nat _ _ y.toNat_lt (oneBit r).toNat_lt, UInt8.toNat_xor]
set_option maxRecDepth 100000 in
set_option maxHeartbeats 4000000 in
theorem l_turned {w : World} {ok : Nat → Prop} {A : Option Addr} {m c : Nat} {bs : List UInt8} (hb : Kd.byte.C w ok A bs) (hm : bs.length = m) (h0 : 0 < m) (hl : m ≤ 100000) (at_ : Int) (ha0 : -9223372036854775808 ≤ at_) (ha1 : at_ ≤ 9223372036854775807) (mask : Nat) (hk : mask < 4294967296) :
    Calls Try.prog 15 #[.slice A m c, .agg #[.int .i64 at_, .int .u32 mask]] w fun e w' => ∃ (g c' i : Nat), i ≤ 32 ∧ fromT at_ m + i ≤ 8 * m ∧ e = .returned (.tuple #[.slice (some ⟨g, 0, none⟩) m c', .bool (turns bs (fromT at_ m) mask i).2]) ∧ m ≤ c' ∧ w.heap.size ≤ g ∧ CurSt w' g (turns bs (fromT at_ m) mask i).1 ∧ Chg nob w w' := by
  have HSP := Lib.hid (row2c (heap_alloc_new w (.cells #[.int .i64 at_, .int .u32 mask] 34)))
  have hc1 := (Chg.refl nob w).alloc (.cells #[.int .i64 at_, .int .u32 mask] 34)
  have HB := Lib.hid (Kd.C_new hb hc1)
  have HM := Lib.hid hm
  have HC1 := Lib.hid hc1
  have hz1 : (w.alloc (.cells #[.int .i64 at_, .int .u32 mask] 34)).heap.size = w.heap.size + 1 := by simp
  have hE := empty_own (w.alloc (.cells #[.int .i64 at_, .int .u32 mask] 34)) (w.alloc (.cells #[.int .i64 at_, .int .u32 mask] 34)).heap.size 5 Kd.byte (Nat.le_refl _)
  rw [hz1] at hE
  have hc2 := (Chg.refl nob (w.alloc (.cells #[.int .i64 at_, .int .u32 mask] 34))).alloc (.cells #[] 5)
  have hs2 : w.heap.size + 1 ≤ ((w.alloc (.cells #[.int .i64 at_, .int .u32 mask] 34)).alloc (.cells #[] 5)).heap.size := by rw [← hz1]; exact hc2.size
  have HE := Lib.hid hE
  have HC2 := Lib.hid (HC1.out.thenNew hc2)
  have HS2 := Lib.hid hs2
  have HB2 := Lib.hid (Kd.C_new HB.out hc2)
  have HSP2 := Lib.hid (And.intro (hc2.cell HSP.out.1 (not_nob _)) (hc2.cell HSP.out.2 (not_nob _)))
  have hcX : Chg nob (w.alloc (.cells #[.int .i64 at_, .int .u32 mask] 34)) _ := hc2
  have HCX := Lib.hid hcX
  have HZ1 := Lib.hid hz1
  clear hb hm hc1 hz1 hE hc2 hs2 hcX HC1 HB
  obtain ⟨F, hF⟩ : ∃ F, fromT at_ m = F := ⟨_, rfl⟩
  have hFl : F < 8 * m := by rw [← hF]; exact Nat.mod_lt _ (by omega)
  have HFV : Hid (wrap64 ((IntKind.u64.wrap at_).tmod (8 * (m : Int))) = (F : Int)) := by
    show _ = _
    have hnn : 0 ≤ IntKind.u64.wrap at_ := Int.emod_nonneg _ (by decide)
    have e : (IntKind.u64.wrap at_).tmod (8 * (m : Int)) = (F : Int) := by
      rw [Int.tmod_eq_emod_of_nonneg hnn, ← hF]
      unfold fromT
      show at_ % 18446744073709551616 % (8 * (m : Int)) = _
      obtain ⟨a, ha⟩ := Int.eq_ofNat_of_zero_le (show 0 ≤ at_ % 18446744073709551616 from hnn)
      rw [ha]
      simp
    rw [e]
    unfold wrap64
    omega
  rw [hF]
  clear hF
  go_enter Try.func15, Try.ntmps15
  go_wp2_with (at_builtin; refine wp_appB rfl _ _ rfl (w.heap.size + 1) _ _ (.slice (some ⟨w.heap.size + 1, 0, none⟩) 0 0) [] bs A m c rfl rfl HM.out HE.out HB2.out HS2.out m (by simp) (by omega) ?_)
  intro A3 c3 w3 hR3 hC3 _
  have hC13 : Chg nob (w.alloc (.cells #[.int .i64 at_, .int .u32 mask] 34)) w3 := HCX.out.trans hC3 (fun i hi => .inr (by rw [HZ1.out]; exact (Kd.R_own HE.out i hi.symm).1))
  obtain ⟨g, rfl, hg, hmc3, hcur⟩ := CurSt.of hR3 HM.out h0
  have HSP3 := Lib.hid (And.intro (hC13.cell HSP.out.1 (not_nob _)) (hC13.cell HSP.out.2 (not_nob _)))
  have HC3 : Hid (Chg nob w w3) := ((Chg.refl nob w).alloc _).thenNew hC13
  have HG : Hid (w.heap.size + 1 ≤ g) := hg
  have HCUR := Lib.hid hcur
  have hmn : ((m : Int) == 0) = false := by simp; omega
  clear hR3 hC3 hC13 hg hcur HE HC2 HS2 HB2 HSP2 HCX HSP
  obtain ⟨d0, d1⟩ := HSP3.out
  go_wp2
  rw [HFV.out]
  clear d0 d1 hmn HFV
  go_loopw [8, 9] (fun v i wr => ∃ j : Nat, j ≤ 32 ∧ F + j ≤ 8 * m ∧ v = .bool (turns bs F mask j).2 ∧ i = .int .i64 j ∧ Hid (CurSt wr g (turns bs F mask j).1) ∧ Hid (Chg (fun b => b = g) w3 wr)) (fun _ i _ => 32 - (intOf i).toNat)
  case atStart => exact ⟨0, by decide, by omega, rfl, rfl, HCUR, Chg.refl _ _⟩
  case round =>
    obtain ⟨j, hj, hFj, rfl, rfl, HCU, HCH⟩ := hrel
    clear HCUR
    by_cases hlt : j < 32 ∧ F + j < 8 * m
    · obtain ⟨l1, l2⟩ := hlt
      have b1 : (j : Int) < 32 := by omega
      have b2 : (F : Int) + (j : Int) < 8 * (m : Int) := by omega
      have b3 : (0 : Int) ≤ (j : Int) := by omega
      obtain ⟨d0, d1⟩ : wr.cell? ⟨w.heap.size, 0, none⟩ = some (.int .i64 at_) ∧ wr.cell? ⟨w.heap.size, 1, none⟩ = some (.int .u32 mask) := ⟨HCH.out.cell HSP3.out.1 (by show ¬ w.heap.size = g; have := HG.out; omega), HCH.out.cell HSP3.out.2 (by show ¬ w.heap.size = g; have := HG.out; omega)⟩
      by_cases hbit : mask / 2 ^ j % 2 = 1
      · have hbi : (((mask : Int) / 2 ^ j).tmod 2 == 1) = true := by
          rw [Int.tmod_eq_emod_of_nonneg (by rw [show ((mask : Int) / 2 ^ j) = ((mask / 2 ^ j : Nat) : Int) from by simp]; exact Int.natCast_nonneg _), show ((mask : Int) / 2 ^ j % 2) = ((mask / 2 ^ j % 2 : Nat) : Int) from by simp, hbit]; rfl
        have HT1 : Hid (turns bs F mask (j + 1) = (turn1 (turns bs F mask j).1 (F + j), true)) := by show _ = _; rw [turns, if_pos hbit]
        have HTL : Hid ((turns bs F mask j).1.length = m) := by show _ = _; rw [turns_len, HM.out]
        obtain ⟨q, hq⟩ : ∃ q, (F + j) / 8 = q := ⟨_, rfl⟩
        obtain ⟨r, hr⟩ : ∃ r, (F + j) % 8 = r := ⟨_, rfl⟩
        obtain ⟨P, hP⟩ : ∃ P, F + j = P := ⟨_, rfl⟩
        rw [hP] at hq hr
        have hPI : IntKind.i64.wrap ((F : Int) + (j : Int)) = (P : Int) := by rw [show (F : Int) + (j : Int) = (P : Int) from by omega]; exact IntWalk.i64_in _ (by omega)
        have hP2 : (F : Int) + (j : Int) = (P : Int) := by omega
        have hqI : (P : Int).tdiv 8 = (q : Int) := by rw [Int.tdiv_eq_ediv_of_nonneg (by omega)]; omega
        have hrI : (P : Int).tmod 8 = (r : Int) := by rw [Int.tmod_eq_emod_of_nonneg (by omega)]; omega
        have hqI2 : (P : Int) / 8 = (q : Int) := by omega
        have hrI2 : (P : Int) % 8 = (r : Int) := by omega
        have hwq : IntKind.i64.wrap (q : Int) = (q : Int) := IntWalk.i64_in _ (by omega)
        have hwr : IntKind.i64.wrap (r : Int) = (r : Int) := IntWalk.i64_in _ (by omega)
        have hPb : (P : Int) < 8 * (m : Int) := by omega
        have hql : (q : Int) < (m : Int) := by omega
        have hq0 : (0 : Int) ≤ (q : Int) := by omega
        have hr0 : (0 : Int) ≤ (r : Int) := by omega
        have hr8 : r < 8 := by omega
        obtain ⟨y, hy⟩ : ∃ y, (turns bs F mask j).1[q]? = some y := ⟨_, List.getElem?_eq_getElem (by rw [HTL.out]; omega)⟩
        have c0 := HCU.out.drew.cell hy
        have f0 := HCU.out.drew.loose q
        have hyl := y.toNat_lt
        have HV := Lib.hid (shr128 r hr8 y)
        have hset := HCU.out.set q (y ^^^ oneBit r)
        rw [show (turns bs F mask j).1.set q (y ^^^ oneBit r) = turn1 (turns bs F mask j).1 (F + j) from by rw [turn1, hP, hq, hr, hy]; rfl] at hset
        have HSET := Lib.hid hset
        have HCH2 : Hid (Chg (fun b => b = g) w3 (wr.setCell ⟨g, q, none⟩ (encB (y ^^^ oneBit r)))) := Chg.set1 HCH.out _ _
        have HA := Lib.hid (And.intro hPI (And.intro hqI (And.intro hqI2 (And.intro hrI (And.intro hrI2 (And.intro hwq hwr))))))
        clear hbit hq hr hset hy hP hP2 hqI hqI2 hrI hrI2 hwq hwr
        go_wp2_with fail
        clear hPI
        refine wp_region_held_drew (S := fun _ => True) (by kernel_rfl) (trivial) (fun hHeld => ?_)
        refine wpAnyH_take (i := 0) (v := ?_) pick0 (by kernel_rfl) (by kernel_rfl) (by kernel_rfl) (fun _ _ _ h => h) (Or.inl ⟨by rfl, ?_⟩) (by assumption) ?_
        rotate_left 1
        · (intro wx hSw; go_simp; try with_reducible rfl)
        try simp only [Act.put, List.setIfInBounds_toArray, List.set_cons_zero, List.set_cons_succ]
        refine wpAnyH_take (i := 1) (v := ?_) (pickS pick0) (by kernel_rfl) (by kernel_rfl) (by kernel_rfl) (fun _ _ _ h => h) (Or.inl ⟨by rfl, ?_⟩) (by assumption) ?_
        rotate_left 1
        · (intro wx hSw; go_simp; try with_reducible rfl)
        try simp only [Act.put, List.setIfInBounds_toArray, List.set_cons_zero, List.set_cons_succ]
        refine wpAnyH_take (i := 2) (v := ?_) (pickS (pickS pick0)) (by kernel_rfl) (by kernel_rfl) (by kernel_rfl) (fun _ _ _ h => h) (Or.inl ⟨by rfl, ?_⟩) (by assumption) ?_
        rotate_left 1
        · (intro wx hSw; go_simp; try with_reducible rfl)
        try simp only [Act.put, List.setIfInBounds_toArray, List.set_cons_zero, List.set_cons_succ]
        refine wpAnyH_take (i := 3) (v := ?_) (pickS (pickS (pickS pick0))) (by kernel_rfl) (by kernel_rfl) (by kernel_rfl) (fun _ _ _ h => h) (Or.inl ⟨by rfl, ?_⟩) (by assumption) ?_
        rotate_left 1
        · (intro wx hSw; obtain ⟨e1, e2, e3, e4, e5, e6, e7⟩ := HA.out; go_simp; try with_reducible rfl)
        try simp only [Act.put, List.setIfInBounds_toArray, List.set_cons_zero, List.set_cons_succ]
        refine wpAnyH_take (i := 4) (v := ?_) (pickS (pickS (pickS (pickS pick0)))) (by kernel_rfl) (by kernel_rfl) (by kernel_rfl) (fun _ _ _ h => h) (Or.inl ⟨by rfl, ?_⟩) (by assumption) ?_
        rotate_left 1
        · (intro wx hSw; obtain ⟨e1, e2, e3, e4, e5, e6, e7⟩ := HA.out; go_simp; try with_reducible rfl)
        try simp only [Act.put, List.setIfInBounds_toArray, List.set_cons_zero, List.set_cons_succ]
        refine wpAnyH_take (i := 5) (v := ?_) (pickS (pickS (pickS (pickS (pickS pick0))))) (by kernel_rfl) (by kernel_rfl) (by kernel_rfl) (fun _ _ _ h => h) (Or.inl ⟨by rfl, ?_⟩) (by assumption) ?_
        rotate_left 1
        · (intro wx hSw; go_simp; try with_reducible rfl)
        try simp only [Act.put, List.setIfInBounds_toArray, List.set_cons_zero, List.set_cons_succ]
        refine wpAnyH_take (i := 6) (v := ?_) (pickS (pickS (pickS (pickS (pickS (pickS pick0)))))) (by kernel_rfl) (by kernel_rfl) (by kernel_rfl) (fun _ _ _ h => h) (Or.inl ⟨by rfl, ?_⟩) (by assumption) ?_
        rotate_left 1
        · (intro wx hSw; go_simp; try with_reducible rfl)
        try simp only [Act.put, List.setIfInBounds_toArray, List.set_cons_zero, List.set_cons_succ]
        refine wpAnyH_take (i := 7) (v := ?_) (pickS (pickS (pickS (pickS (pickS (pickS (pickS pick0))))))) (by kernel_rfl) (by kernel_rfl) (by kernel_rfl) (fun _ _ _ h => h) (Or.inl ⟨by rfl, ?_⟩) (by assumption) ?_
        rotate_left 1
        · (intro wx hSw; go_simp; try with_reducible rfl)
        try simp only [Act.put, List.setIfInBounds_toArray, List.set_cons_zero, List.set_cons_succ]
        refine wpAnyH_take (i := 8) (v := ?_) (pickS (pickS (pickS (pickS (pickS (pickS (pickS (pickS pick0)))))))) (by kernel_rfl) (by kernel_rfl) (by kernel_rfl) (fun _ _ _ h => h) (Or.inl ⟨by rfl, ?_⟩) (by assumption) ?_
        rotate_left 1
        · (intro wx hSw; obtain ⟨e1, e2, e3, e4, e5, e6, e7⟩ := HA.out; go_simp; try with_reducible rfl)
        try simp only [Act.put, List.setIfInBounds_toArray, List.set_cons_zero, List.set_cons_succ]
        refine wpAnyH_take (i := 9) (v := ?_) (pickS (pickS (pickS (pickS (pickS (pickS (pickS (pickS (pickS pick0))))))))) (by kernel_rfl) (by kernel_rfl) (by kernel_rfl) (fun _ _ _ h => h) (Or.inl ⟨by rfl, ?_⟩) (by assumption) ?_
        rotate_left 1
        · (intro wx hSw; obtain ⟨e1, e2, e3, e4, e5, e6, e7⟩ := HA.out; go_simp; try with_reducible rfl)
        try simp only [Act.put, List.setIfInBounds_toArray, List.set_cons_zero, List.set_cons_succ]
        refine wpAnyH_take (i := 10) (v := ?_) (pickS (pickS (pickS (pickS (pickS (pickS (pickS (pickS (pickS (pickS pick0)))))))))) (by kernel_rfl) (by kernel_rfl) (by kernel_rfl) (fun _ _ _ h => h) (Or.inl ⟨by rfl, ?_⟩) (by assumption) ?_
        rotate_left 1
        · (intro wx hSw; go_simp; try with_reducible rfl)
        try simp only [Act.put, List.setIfInBounds_toArray, List.set_cons_zero, List.set_cons_succ]
        refine wpAnyH_take (i := 12) (v := ?_) (pickS (pickS (pickS (pickS (pickS (pickS (pickS (pickS (pickS (pickS (pickS (pickS pick0)))))))))))) (by kernel_rfl) (by kernel_rfl) (by kernel_rfl) (fun _ _ _ h => h) (Or.inl ⟨by rfl, ?_⟩) (by assumption) ?_
        rotate_left 1
        · (intro wx hSw; go_simp; try with_reducible rfl)
        try simp only [Act.put, List.setIfInBounds_toArray, List.set_cons_zero, List.set_cons_succ]
        refine wpAnyH_take (i := 13) (v := ?_) (pickS (pickS (pickS (pickS (pickS (pickS (pickS (pickS (pickS (pickS (pickS (pickS (pickS pick0))))))))))))) (by kernel_rfl) (by kernel_rfl) (by kernel_rfl) (fun _ _ _ h => h) (Or.inl ⟨by rfl, ?_⟩) (by assumption) ?_
        rotate_left 1
        · (intro wx hSw; go_simp; try with_reducible rfl)
        try simp only [Act.put, List.setIfInBounds_toArray, List.set_cons_zero, List.set_cons_succ]
        refine wpAnyH_take (i := 14) (v := ?_) (pickS (pickS (pickS (pickS (pickS (pickS (pickS (pickS (pickS (pickS (pickS (pickS (pickS (pickS pick0)))))))))))))) (by kernel_rfl) (by kernel_rfl) (by kernel_rfl) (fun _ _ _ h => h) (Or.inl ⟨by rfl, ?_⟩) (by assumption) ?_
        rotate_left 1
        · (intro wx hSw; obtain ⟨e1, e2, e3, e4, e5, e6, e7⟩ := HA.out; go_simp; try with_reducible rfl)
        try simp only [Act.put, List.setIfInBounds_toArray, List.set_cons_zero, List.set_cons_succ]
        refine wpAnyH_take (i := 15) (v := ?_) (pickS (pickS (pickS (pickS (pickS (pickS (pickS (pickS (pickS (pickS (pickS (pickS (pickS (pickS (pickS pick0))))))))))))))) (by kernel_rfl) (by kernel_rfl) (by kernel_rfl) (fun _ _ _ h => h) (Or.inl ⟨by rfl, ?_⟩) (by assumption) ?_
        rotate_left 1
        · (intro wx hSw; obtain ⟨e1, e2, e3, e4, e5, e6, e7⟩ := HA.out; go_simp; try with_reducible rfl)
        try simp only [Act.put, List.setIfInBounds_toArray, List.set_cons_zero, List.set_cons_succ]
        refine wpAnyH_take (i := 16) (v := ?_) (pickS (pickS (pickS (pickS (pickS (pickS (pickS (pickS (pickS (pickS (pickS (pickS (pickS (pickS (pickS (pickS pick0)))))))))))))))) (by kernel_rfl) (by kernel_rfl) (by kernel_rfl) (fun _ _ _ h => h) (Or.inl ⟨by rfl, ?_⟩) (by assumption) ?_
        rotate_left 1
        · (intro wx hSw; go_simp; try with_reducible rfl)
        try simp only [Act.put, List.setIfInBounds_toArray, List.set_cons_zero, List.set_cons_succ]
        refine wpAnyH_ready (rs := [11]) (by kernel_rfl) (by simp) ?_
        refine AllReadyH.cons (pickS (pickS (pickS (pickS (pickS (pickS (pickS (pickS (pickS (pickS (pickS pick0))))))))))) (fun K hK => ?_) AllReadyH.nil
        go_simp
        refine hK.out _ _ (trivial) (fun hHeld => ?_)
        clear hK K
        try simp only [Act.put, List.setIfInBounds_toArray, List.set_cons_zero, List.set_cons_succ]
        refine wpAnyH_take (i := 17) (v := ?_) (pickS (pickS (pickS (pickS (pickS (pickS (pickS (pickS (pickS (pickS (pickS (pickS (pickS (pickS (pickS (pickS (pickS pick0))))))))))))))))) (by kernel_rfl) (by kernel_rfl) (by kernel_rfl) (fun _ _ _ h => h) (Or.inl ⟨by rfl, ?_⟩) (by assumption) ?_
        rotate_left 1
        · (intro wx hSw; go_simp; try with_reducible rfl)
        try simp only [Act.put, List.setIfInBounds_toArray, List.set_cons_zero, List.set_cons_succ]
        refine wpAnyH_take (i := 18) (v := ?_) (pickS (pickS (pickS (pickS (pickS (pickS (pickS (pickS (pickS (pickS (pickS (pickS (pickS (pickS (pickS (pickS (pickS (pickS pick0)))))))))))))))))) (by kernel_rfl) (by kernel_rfl) (by kernel_rfl) (fun _ _ _ h => h) (Or.inl ⟨by rfl, ?_⟩) (by assumption) ?_
        rotate_left 1
        · (intro wx hSw; go_simp; try with_reducible rfl)
        try simp only [Act.put, List.setIfInBounds_toArray, List.set_cons_zero, List.set_cons_succ]
        refine wpAnyH_ready (rs := [19]) (by kernel_rfl) (by simp) ?_
        refine AllReadyH.cons (pickS (pickS (pickS (pickS (pickS (pickS (pickS (pickS (pickS (pickS (pickS (pickS (pickS (pickS (pickS (pickS (pickS (pickS (pickS pick0))))))))))))))))))) (fun K hK => ?_) AllReadyH.nil
        go_simp
        refine hK.out _ _ (trivial) (fun hHeld => ?_)
        clear hK K
        try simp only [Act.put, List.setIfInBounds_toArray, List.set_cons_zero, List.set_cons_succ]
        refine wpAnyH_done (by kernel_rfl) ?_ _
        rw [HV.out]
        have HSET2 := Lib.hid HSET.out.drew
        have HCH3 := Lib.hid HCH2.out.drew
        generalize (World.setCell wr _ _).drew = w7 at HSET2 HCH3 ⊢
        clear hHeld HSET HCH2 c0 f0 d0 d1
        go_wp2
        exact ⟨⟨j + 1, by omega, by omega, by rw [HT1.out], by go_num, by rw [HT1.out]; exact HSET2, HCH3⟩, by simp [intOf]; omega⟩
      · have hbi : (((mask : Int) / 2 ^ j).tmod 2 == 1) = false := by
          rw [Int.tmod_eq_emod_of_nonneg (by rw [show ((mask : Int) / 2 ^ j) = ((mask / 2 ^ j : Nat) : Int) from by simp]; exact Int.natCast_nonneg _), show ((mask : Int) / 2 ^ j % 2) = ((mask / 2 ^ j % 2 : Nat) : Int) from by simp, show mask / 2 ^ j % 2 = 0 from by (generalize mask / 2 ^ j = M at hbit ⊢; omega)]; rfl
        have HT1 : Hid (turns bs F mask (j + 1) = turns bs F mask j) := by show _ = _; rw [turns, if_neg hbit]
        clear hbit
        go_wp2
        exact ⟨⟨j + 1, by omega, by omega, by rw [HT1.out], by go_num, by rw [HT1.out]; exact HCU, HCH⟩, by simp [intOf]; omega⟩
    · have hor : j = 32 ∨ F + j = 8 * m := by omega
      rcases hor with rfl | hor
      · have b1 : ¬ ((32 : Nat) : Int) < 32 := by omega
        go_wp2
        go_ret2
        exact ⟨g, c3, 32, Nat.le_refl _, hFj, rfl, hmc3, by have := HG.out; omega, HCU.out, HC3.out.trans HCH.out (fun i hi => .inr (by have : i = g := hi; have := HG.out; omega))⟩
      · have b2 : ¬ (F : Int) + (j : Int) < 8 * (m : Int) := by omega
        have b3 : (F : Int) + (j : Int) = 8 * (m : Int) := by omega
        by_cases h32 : j < 32
        · have b1 : (j : Int) < 32 := by omega
          go_wp2
          go_ret2
          exact ⟨g, c3, j, hj, hFj, rfl, hmc3, by have := HG.out; omega, HCU.out, HC3.out.trans HCH.out (fun i hi => .inr (by have : i = g := hi; have := HG.out; omega))⟩
        · have b1 : ¬ (j : Int) < 32 := by omega
          go_wp2
          go_ret2
          exact ⟨g, c3, j, hj, hFj, rfl, hmc3, by have := HG.out; omega, HCU.out, HC3.out.trans HCH.out (fun i hi => .inr (by have : i = g := hi; have := HG.out; omega))⟩
end Go.Proofs.Ytfaiehhmpmbcjaa
