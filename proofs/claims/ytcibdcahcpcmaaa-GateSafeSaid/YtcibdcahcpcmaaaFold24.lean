import Derived.Test.YtcibdcahcpcmaaaFold23
import Derived.Test.YtcibdcahcpcmaaaFold20
/- Bytes and their sum: what a call of Put does. -/
namespace Go.Proofs.Ytcibdcahcpcmaaa
open Go.RowKit
set_option maxRecDepth 100000
set_option linter.unusedVariables false
set_option linter.unusedSimpArgs false
/-- A call has told new bytes. -/
theorem s_put {w : World} {k0 k1 : Nat} (h0 : k0 < 18446744073709551616) (h1 : k1 < 18446744073709551616) {ok : Nat → Prop} {A : Option Addr} {m c : Nat} {bs : List UInt8} (hb : Kd.byte.C w ok A bs) (hok : ∀ b, ok b → b < w.heap.size) (hm : bs.length = m) (hmc : m ≤ c) (hl : m ≤ 140737488351232) :
    Calls Try.prog 44 #[.agg #[.int .u64 k0, .int .u64 k1], .slice A m c] w (Tells w (sealed k0 k1 bs) (m + 8)) := by
  have HB := Lib.hid hb
  have HM := Lib.hid hm
  have HOK := Lib.hid hok
  clear hb hm hok
  have c0 : Chg nob w (w.alloc (.cells #[.int .u64 k0, .int .u64 k1] 70)) := (Chg.refl _ _).alloc _
  go_enter Try.func44, Try.ntmps44
  go_wp2_with fail
  refine (s_sum h0 h1 (Kd.C_new HB.out c0) (fun b hb => Nat.lt_of_lt_of_le (HOK.out b hb) c0.size) HM.out hmc).mono ?_
  rintro e w2 ⟨rfl, hc2⟩
  have hn2 := c0.thenNew hc2
  have hS := sumN_lt h0 h1 bs
  go_wp2_with fail
  refine (s_laid _ hS).mono ?_
  rintro e w3 ⟨rfl, hc3⟩
  have hn3 := hn2.thenNew hc3
  obtain ⟨a0, a1, a2, a3, a4, a5, a6, a7, hbe⟩ : ∃ a0 a1 a2 a3 a4 a5 a6 a7, beB (sumN k0 k1 bs) = [a0, a1, a2, a3, a4, a5, a6, a7] := ⟨_, _, _, _, _, _, _, _, rfl⟩
  rw [show ((beB (sumN k0 k1 bs)).map encB).toArray = #[Value.int .u8 (a0.toNat : Int), Value.int .u8 (a1.toNat : Int), Value.int .u8 (a2.toNat : Int), Value.int .u8 (a3.toNat : Int), Value.int .u8 (a4.toNat : Int), Value.int .u8 (a5.toNat : Int), Value.int .u8 (a6.toNat : Int), Value.int .u8 (a7.toNat : Int)] from by rw [hbe]; rfl]
  have HBE := Lib.hid hbe
  clear hc2 hc3 hbe hn2 c0
  go_wp2
  have hn4 := hn3.alloc (.cells #[Value.int .u8 (a0.toNat : Int), Value.int .u8 (a1.toNat : Int), Value.int .u8 (a2.toNat : Int), Value.int .u8 (a3.toNat : Int), Value.int .u8 (a4.toNat : Int), Value.int .u8 (a5.toNat : Int), Value.int .u8 (a6.toNat : Int), Value.int .u8 (a7.toNat : Int)] 113)
  have hC8 : Kd.byte.C (w3.alloc (.cells #[Value.int .u8 (a0.toNat : Int), Value.int .u8 (a1.toNat : Int), Value.int .u8 (a2.toNat : Int), Value.int .u8 (a3.toNat : Int), Value.int .u8 (a4.toNat : Int), Value.int .u8 (a5.toNat : Int), Value.int .u8 (a6.toNat : Int), Value.int .u8 (a7.toNat : Int)] 113)) (fun b => b = w3.heap.size) (some ⟨w3.heap.size, 0, none⟩) (beB (sumN k0 k1 bs)) := C_block (heap_alloc_new w3 _) (by rw [HBE.out]; rfl) (by rw [beB_len]; decide)
  have hs3 := hn3.size
  generalize hg : w3.heap.size = g at hC8 hs3 ⊢
  have hsz : (w3.alloc (.cells #[Value.int .u8 (a0.toNat : Int), Value.int .u8 (a1.toNat : Int), Value.int .u8 (a2.toNat : Int), Value.int .u8 (a3.toNat : Int), Value.int .u8 (a4.toNat : Int), Value.int .u8 (a5.toNat : Int), Value.int .u8 (a6.toNat : Int), Value.int .u8 (a7.toNat : Int)] 113)).heap.size = g + 1 := by rw [← hg]; simp
  generalize w3.alloc _ = w4 at hn4 hC8 hsz ⊢
  have HC8 := Lib.hid (Kd.C_new hC8 ((Chg.refl _ w4).drew))
  have HB5 := Lib.hid (Kd.C_new HB.out (hn4.drew))
  have HN5 : Hid (Chg nob w w4.drew) := hn4.drew
  have hsz5 : w4.drew.heap.size = g + 1 := hsz
  clear hn3 hn4 hC8 hg hsz
  refine wp_region_held_drew (S := fun _ => True) (by kernel_rfl) trivial (fun hHeld => ?_)
  generalize w4.drew = w5 at HC8 HB5 HN5 hsz5 ⊢
  refine wpAnyH_take (i := 1) (v := ?_) (pickS pick0) (by kernel_rfl) (by kernel_rfl) (by kernel_rfl) (fun _ _ _ h => h) (Or.inl ⟨by rfl, ?_⟩) (by assumption) ?_
  rotate_left 1
  · (intro w hSw; go_simp; try with_reducible rfl)
  try simp only [Act.put, List.setIfInBounds_toArray, List.set_cons_zero, List.set_cons_succ]
  refine wpAnyH_take (i := 3) (v := .slice (some ⟨g, 0, none⟩) 8 8) (pickS (pickS (pickS pick0))) (by kernel_rfl) (by kernel_rfl) (by kernel_rfl) (fun _ _ _ h => h) (Or.inl ⟨by rfl, ?_⟩) (by assumption) ?_
  · (intro w hSw; go_simp; try with_reducible rfl)
  try simp only [Act.put, List.setIfInBounds_toArray, List.set_cons_zero, List.set_cons_succ]
  refine wpAnyH_ready (rs := [0]) (by kernel_rfl) (by simp) ?_
  refine AllReadyH.cons pick0 (fun K hK => ?_) AllReadyH.nil
  go_simp
  refine hK.out _ _ trivial (fun _ => ?_)
  clear hK K
  try simp only [Act.put, List.setIfInBounds_toArray, List.set_cons_zero, List.set_cons_succ]
  have HE : Hid (Kd.byte.R 5 (w5.alloc (.cells #[] 5)) w5.heap.size (fun k => k = w5.heap.size) (.slice (some ⟨w5.heap.size, 0, none⟩) 0 0) ([] : List UInt8)) := empty_own w5 w5.heap.size 5 Kd.byte (Nat.le_refl _)
  rw [hsz5] at HE
  have c6 : Chg nob w5 (w5.alloc (.cells #[] 5)) := (Chg.refl _ _).alloc _
  refine wpAnyH_ready (rs := [2]) (by kernel_rfl) (by simp) ?_
  refine AllReadyH.cons (pickS (pickS pick0)) (fun K hK => ?_) AllReadyH.nil
  refine step_appB rfl _ _ rfl (g + 1) _ _ (.slice (some ⟨g + 1, 0, none⟩) 0 0) ([] : List UInt8) bs A m c rfl rfl HM.out HE.out (Kd.C_new HB5.out c6) (by rw [← hsz5]; exact c6.size) m (by simp) (by omega) ?_
  intro A6 c6' w6 hR6 hC6 _
  have hn6 : Chg nob w5 w6 := c6.trans hC6 (fun i hi => .inr (by
    have : some i = some (g + 1) := hi
    cases this
    rw [hsz5]
    exact Nat.le_refl _))
  have HR6 := Lib.hid (byte_ge hR6)
  have hs6 := hn6.size
  refine hK.out _ _ trivial (fun _ => ?_)
  clear hK K hR6 hC6 HE
  try simp only [Act.put, List.setIfInBounds_toArray, List.set_cons_zero, List.set_cons_succ]
  refine wpAnyH_ready (rs := [4]) (by kernel_rfl) (by simp) ?_
  refine AllReadyH.cons (pickS (pickS (pickS (pickS pick0)))) (fun K hK => ?_) AllReadyH.nil
  refine step_appB rfl _ _ rfl (g + 1) _ _ (.slice A6 m c6') ([] ++ bs) (beB (sumN k0 k1 bs)) (some ⟨g, 0, none⟩) 8 8 rfl rfl (beB_len _) HR6.out (Kd.C_new HC8.out hn6) (by rw [← hsz5]; exact hs6) (m + 8) (by rw [List.nil_append, HM.out]) (by omega) ?_
  intro A7 c7 w7 hR7 hC7 _
  have hn7 : Chg nob w5 w7 := hn6.trans hC7 (fun i hi => .inr (by have := (Kd.R_own HR6.out i hi.symm).1; omega))
  have HN7 : Hid (Chg nob w w7) := HN5.out.thenNew hn7
  have HR7 := Lib.hid (byte_ge hR7)
  refine hK.out _ _ trivial (fun _ => ?_)
  clear hK K hR7 hC7 HR6
  try simp only [Act.put, List.setIfInBounds_toArray, List.set_cons_zero, List.set_cons_succ]
  refine wpAnyH_take (i := 5) (v := ?_) (pickS (pickS (pickS (pickS (pickS pick0))))) (by kernel_rfl) (by kernel_rfl) (by kernel_rfl) (fun _ _ _ h => h) (Or.inl ⟨by rfl, ?_⟩) (by assumption) ?_
  rotate_left 1
  · (intro w hSw; go_simp; try with_reducible rfl)
  try simp only [Act.put, List.setIfInBounds_toArray, List.set_cons_zero, List.set_cons_succ]
  refine wpAnyH_done (by kernel_rfl) ?_ _
  go_wp2
  go_ret
  obtain ⟨k1', k2', k3'⟩ := Kd.R_read HR7.out
  refine ⟨A7, c7, rfl, ?_, k3', Kd.C_mono k1' (fun b hb => by omega), HN7.out⟩
  rw [sealed, List.length_append, beB_len, HM.out]
end Go.Proofs.Ytcibdcahcpcmaaa

/- A number's bytes: the plain function, and what field.Num and the reference's Num lay. -/
namespace Go.Proofs.Ytcibdcahcpcmaaa
open Go.RowKit
set_option maxRecDepth 100000
set_option linter.unusedVariables false

/-! ### the plain function -/
def leB : Nat → List UInt8
  | 0 => []
  | n + 1 => UInt8.ofNat ((n + 1) % 256) :: leB ((n + 1) / 256)
decreasing_by omega
theorem leB_zero : leB 0 = [] := by rw [leB]
theorem leB_pos {n : Nat} (h : 0 < n) : leB n = UInt8.ofNat (n % 256) :: leB (n / 256) := by
  obtain ⟨m, rfl⟩ : ∃ m, n = m + 1 := ⟨n - 1, by omega⟩
  rw [leB]
theorem leB_len (k : Nat) : ∀ n : Nat, n < 256 ^ k → (leB n).length ≤ k := by
  induction k with
  | zero => intro n h; have : n = 0 := by simpa using h
            subst this; simp [leB_zero]
  | succ k ih =>
    intro n h
    rcases Nat.eq_zero_or_pos n with rfl | hp
    · simp [leB_zero]
    · rw [leB_pos hp]
      have := ih (n / 256) (by rw [Nat.div_lt_iff_lt_mul (by omega)]; rwa [Nat.pow_succ] at h)
      simp
      omega
def numB (n : Nat) : List UInt8 := UInt8.ofNat (leB n).length :: (leB n).reverse
theorem leB_len8 {n : Nat} (h : n < 18446744073709551616) : (leB n).length ≤ 8 := leB_len 8 n (by simpa using h)
theorem numB_len {n : Nat} (h : n < 18446744073709551616) : (numB n).length ≤ 9 := by
  have := leB_len8 h
  simp [numB]
  omega

/-- What a call leaves that tells new bytes. -/
def Laid (w : World) (l : List UInt8) (e : Ending) (w' : World) : Prop := ∃ v, e = .returned v ∧ Kd.byte.R 5 w' w.heap.size (fun b => w.heap.size ≤ b) v l ∧ Chg nob w w'
/-- Between the rounds. -/
structure DigSt (w : World) (n : Nat) (k x : Nat) (wr : World) : Prop where
  lo : ∃ lo : List UInt8, lo.length = k ∧ leB n = lo ++ leB x ∧ wr.heap[w.heap.size]? = some (.cells ((List.replicate (8 - k) 0 ++ lo.reverse).map encB).toArray 113 (0, 0))
  hk : k ≤ 8
  chg : Chg nob w wr

theorem DigSt.len {w wr : World} {n k x : Nat} (h : DigSt w n k x wr) (hn : n < 18446744073709551616) (hx : 0 < x) : k < 8 := by
  obtain ⟨lo, h1, h2, _⟩ := h.lo
  have := leB_len8 hn
  rw [h2, leB_pos hx] at this
  simp at this
  omega
theorem DigSt.step {w wr : World} {n k x : Nat} (h : DigSt w n k x wr) (hx : 0 < x) (hk : k < 8) : DigSt w n (k + 1) (x / 256) (wr.setCell ⟨w.heap.size, 7 - k, none⟩ (.int .u8 ((x : Int) % 256))) := by
  rw [byte_mod, show 7 - k = 8 - (k + 1) from by omega]
  obtain ⟨⟨lo, h1, h2, h3⟩, h4, h5⟩ := h
  refine ⟨⟨lo ++ [UInt8.ofNat (x % 256)], by simp [h1], by rw [h2, leB_pos hx]; simp, ?_⟩, by omega, h5.setCell (.inr (by simp)) _⟩
  have := block_set (i := 8 - (k + 1)) (b := UInt8.ofNat (x % 256)) h3
  rw [this]
  congr 4
  rw [show 8 - k = (8 - (k + 1)) + 1 from by omega, List.replicate_succ', List.append_assoc, List.set_append_right _ _ (by simp), List.length_replicate, Nat.sub_self]
  simp
theorem DigSt.start (w : World) (n : Nat) : DigSt w n 0 n (w.alloc (.cells #[.int .u8 0, .int .u8 0, .int .u8 0, .int .u8 0, .int .u8 0, .int .u8 0, .int .u8 0, .int .u8 0] 113)) :=
  ⟨⟨[], rfl, rfl, heap_alloc_new w _⟩, by omega, (Chg.refl _ _).alloc _⟩
theorem DigSt.done {w wr : World} {n k : Nat} (h : DigSt w n k 0 wr) : k = (leB n).length ∧ Kd.byte.C wr (fun b => b = w.heap.size) (some ⟨w.heap.size, 8 - k, none⟩) (leB n).reverse := by
  obtain ⟨⟨lo, h1, h2, h3⟩, h4, h5⟩ := h
  rw [leB_zero, List.append_nil] at h2
  refine ⟨by rw [h2, h1], C_block h3 ?_ (by rw [h2]; simp; omega)⟩
  rw [h2]
  simp
set_option maxRecDepth 100000 in
theorem slice8 (g k : Nat) (hk : k ≤ 8) : ∃ AX, (∀ wx : World, (Instr.sliceAt 113 (.pointer (some ⟨g, 0, none⟩)) (some (.int .i64 (8 - (k : Int)))) none none).run Try.prog wx = .ok (.slice AX k k) wx) ∧ (0 < k → AX = some ⟨g, 8 - k, none⟩) := by
  have hAL : Try.prog.arrayLen 113 = 8 := by kernel_rfl
  have hEL : Try.prog.elem 113 = 5 := by kernel_rfl
  have hSZ : ∀ wx : World, (Go.sizeOf 5).run Try.prog wx = .ok 1 wx := fun _ => by kernel_rfl
  refine ⟨if 8 = (8 - (k : Int)).toNat then some ⟨g, 0, none⟩ else some ((⟨g, 0, none⟩ : Addr).add ((8 - (k : Int)).toNat * 1)), fun wx => ?_, fun h => ?_⟩
  · rw [run_sliceAt_array_l wx 113 _ (by rw [hAL, hEL]; exact Try.underlying113) .i64 _ (by omega) (by rw [hAL]; omega), hAL, hEL, hSZ]
    simp only [Result.andThen_ok, slicedAt]
    have e : 8 - (8 - (k : Int)).toNat = k := by omega
    rw [e]
    split <;> rfl
  · rw [if_neg (by omega), add_at]
    congr 2
    omega
set_option maxHeartbeats 2000000 in
theorem field_num {w : World} {ok : Nat → Prop} {A : Option Addr} {m c : Nat} {bs : List UInt8} (hb : Kd.byte.C w ok A bs) (hm : bs.length = m) (hm2 : m ≤ 1000000000) (n : Int) (h0 : 0 ≤ n) (h1 : n < 18446744073709551616) :
    Calls Try.prog 42 #[.slice A m c, .int .u64 n] w (Laid w (bs ++ numB n.toNat)) := by
  obtain ⟨n, rfl⟩ := Int.eq_ofNat_of_zero_le h0
  rw [Int.toNat_natCast]
  have hn : n < 18446744073709551616 := by omega
  clear h0 h1
  have hN := Lib.hid hn
  have HM := Lib.hid hm
  have hs := DigSt.start w n
  have hl8 := leB_len8 hn
  clear hm hn
  go_enter Try.func42, Try.ntmps42
  go_wp2
  go_loopw [6, 7] (fun i j wr => ∃ k x : Nat, i = .int .i64 k ∧ j = .int .u64 x ∧ DigSt w n k x wr) (fun _ j _ => (intOf j).toNat)
  case atStart => exact ⟨0, n, rfl, rfl, hs⟩
  case round =>
    obtain ⟨k, x, rfl, rfl, hd⟩ := hrel
    clear hs
    by_cases hx : 0 < x
    · have hk := hd.len hN.out hx
      obtain ⟨v, hv, hf⟩ : ∃ v, wr.cell? ⟨w.heap.size, 7 - k, none⟩ = some v ∧ wr.frozen? ⟨w.heap.size, 7 - k, none⟩ = false := by
        obtain ⟨lo, h1, _, h3⟩ := hd.lo
        obtain ⟨⟨v, hv⟩, hf⟩ := block_at (i := 7 - k) h3 (by simp; omega)
        exact ⟨v, hv, hf⟩
      have hst := hd.step hx hk
      go_wp2
      exact ⟨⟨k + 1, x / 256, by go_num, by go_num, hst⟩, by simp [intOf]; omega⟩
    · obtain rfl : x = 0 := by omega
      obtain ⟨hk, hC⟩ := hd.done
      have hk8 : k ≤ 8 := hd.hk
      have hl : m + 1 + k = (bs ++ numB n).length := by simp [numB, HM.out, hk]; omega
      have HL := Lib.hid hl
      have hwr := hd.chg.size
      have hcx : (0 : Int) ≤ 8 - (k : Int) := by omega
      have hby : Value.int .u8 ((k : Int)) = encB (UInt8.ofNat (leB n).length) := by
        unfold encB; rw [UInt8.toNat_ofNat_of_lt' (show (leB n).length < 256 by omega), hk]
      have HBY := Lib.hid hby
      have HK := Lib.hid hk
      clear hk hl hby
      have c0 : Chg nob wr (wr.alloc (.cells #[] 5)) := (Chg.refl _ _).alloc _
      have hdc := hd.chg
      have hlt : w.heap.size < wr.heap.size := by obtain ⟨lo, _, _, h3⟩ := hd.lo; exact heap_lt h3
      clear hd
      go_wp2_with (at_builtin; refine wp_appB rfl _ _ rfl wr.heap.size (fun b => b = wr.heap.size) ok _ [] bs A m _ rfl rfl HM.out (empty_own wr _ _ _ (Nat.le_refl _)) (Kd.C_new (Kd.C_new hb hdc) c0) ?_ m (Nat.zero_add _) ?_ ?_)
      · simp
      · omega
      intro A1 c1 w1 hR1 hC1 hat1
      have q1 : Chg nob wr w1 := c0.trans hC1 (fun b hb => .inr (by cases hb; exact Nat.le_refl _))
      have s1 := q1.size
      clear hC1 hat1 hb c0
      go_wp2_with (at_builtin; refine wp_app1B rfl _ _ rfl wr.heap.size (fun b => some b = (Value.slice A1 m c1).ownBlock) (.slice A1 m c1) bs (UInt8.ofNat (leB n).length) _ ?_ rfl rfl hR1 ?_ (m + 1) ?_ ?_ ?_)
      · exact HBY.out
      · exact q1.size
      · rw [HM.out]
      · omega
      intro A2 c2 w2 hR2 hC2 hat2
      have q2 : Chg nob wr w2 := q1.trans hC2 (fun b hb => .inr (by have := (Kd.R_own hR1 b hb.symm).1; omega))
      clear hC2 hat2 hR1
      have hC2 : ∀ AX, (0 < k → AX = some ⟨w.heap.size, 8 - k, none⟩) → Kd.byte.C w2 (fun b => b = w.heap.size) AX (leB n).reverse := by
        intro AX hAX
        rcases Nat.eq_zero_or_pos k with h0 | h0
        · have : (leB n).reverse = [] := by rw [HK.out] at h0; simpa using List.eq_nil_of_length_eq_zero h0
          rw [this]; exact Kd.C_nil _ _ _ _
        · rw [hAX h0]; exact Kd.C_new hC q2
      obtain ⟨AX, hsl, hAX⟩ := slice8 w.heap.size k hk8
      have hC3 := hC2 AX hAX
      clear hC2 hAX hC
      go_wp2_with (at_builtin; refine wp_appB rfl _ _ rfl wr.heap.size (fun b => some b = (Value.slice A2 (m + 1) c2).ownBlock) (fun b => b = w.heap.size) (.slice A2 (m + 1) c2) (bs ++ [UInt8.ofNat (leB n).length]) (leB n).reverse AX k _ rfl rfl ?_ hR2 hC3 ?_ (m + 1 + k) ?_ ?_ ?_)
      · rw [List.length_reverse]; exact HK.out.symm
      · have := q2.size; omega
      · rw [List.length_append, HM.out, List.length_singleton]
      · omega
      intro A3 c3 w3 hR3 hC4 _
      have q3 : Chg nob wr w3 := q2.trans hC4 (fun b hb => .inr (Kd.R_own hR2 b hb.symm).1)
      have HE : Hid (Laid w (bs ++ numB n) (.returned (.slice A3 (m + 1 + k) c3)) w3) := by
        refine ⟨_, rfl, ?_, hdc.thenNew q3⟩
        exact Kd.R_mono (Kd.R_lower (show Kd.byte.R _ _ _ _ _ (bs ++ numB n) from hR3) hwr) (fun b hb => Nat.le_trans hwr (Kd.R_own hR3 b hb.symm).1)
      clear hR3 hC4 hR2 hsl
      go_wp2
      go_ret
      exact HE.out
end Go.Proofs.Ytcibdcahcpcmaaa
