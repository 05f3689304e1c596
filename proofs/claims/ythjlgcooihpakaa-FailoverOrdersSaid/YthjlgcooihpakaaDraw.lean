/- What a call of draw.New, Below, Left, Taken, Order, Some does: the state is a row of numbers and a place. -/
import Derived.Test.YthjlgcooihpakaaKit
import Derived.Test.YthjlgcooihpakaaProg
namespace Go.Proofs.Ythjlgcooihpakaa
open Go.RowKit
set_option linter.unusedVariables false

/-! ### the numbers -/
def drawAdv (xs : List Int) (k : Nat) (m : Int) : Nat := if m < 2 ∨ xs.length ≤ k then 0 else 1
def drawVal (xs : List Int) (k : Nat) (m : Int) : Int := if m < 2 ∨ xs.length ≤ k then 0 else xs.getD k 0 * min m 2147483648 / 4294967296
theorem drawAdv_small {xs : List Int} {k : Nat} {m : Int} (h : m < 2 ∨ xs.length ≤ k) : drawAdv xs k m = 0 := if_pos h
theorem drawVal_small {xs : List Int} {k : Nat} {m : Int} (h : m < 2 ∨ xs.length ≤ k) : drawVal xs k m = 0 := if_pos h
theorem drawAdv_big {xs : List Int} {k : Nat} {m : Int} (h : ¬ (m < 2 ∨ xs.length ≤ k)) : drawAdv xs k m = 1 := if_neg h
theorem drawVal_big {xs : List Int} {k : Nat} {m : Int} (h : ¬ (m < 2 ∨ xs.length ≤ k)) : drawVal xs k m = xs.getD k 0 * min m 2147483648 / 4294967296 := if_neg h
theorem drawVal_bd {xs : List Int} (hx : ∀ x ∈ xs, 0 ≤ x ∧ x < 4294967296) (k : Nat) (m : Int) : 0 ≤ drawVal xs k m ∧ (drawVal xs k m < m ∨ drawVal xs k m = 0) := by
  by_cases h : m < 2 ∨ xs.length ≤ k
  · rw [drawVal_small h]; exact ⟨Int.le_refl _, .inr rfl⟩
  · rw [drawVal_big h]
    have hk : k < xs.length := by omega
    have h1 := hx xs[k] (List.getElem_mem hk)
    rw [List.getD_eq_getElem?_getD, List.getElem?_eq_getElem hk, Option.getD_some]
    have h2 : 2 ≤ m := by omega
    have h3 : 0 ≤ min m 2147483648 := by omega
    have h4 : min m 2147483648 ≤ m := by omega
    have h5 : 0 ≤ xs[k] * min m 2147483648 := Int.mul_nonneg h1.1 h3
    refine ⟨by omega, .inl ?_⟩
    have h6 : xs[k] * min m 2147483648 ≤ 4294967295 * min m 2147483648 := Int.mul_le_mul_of_nonneg_right (by omega) h3
    omega

/-! ### the state in memory -/
/-- Block g is draws: the row xs, k of them taken. What it rests on is ok. -/
def IsDraws (w : World) (ok : Nat → Prop) (g : Nat) (xs : List Int) (k : Nat) : Prop :=
  ok g ∧ ∃ A c, w.heap[g]? = some (.cells #[.slice A xs.length c, .int .i64 k] 72 (0, 0)) ∧ xs.length ≤ c ∧ xs.length ≤ 4096 ∧ k ≤ xs.length ∧
    (Kd.int .u32).C w (fun b => ok b ∧ b ≠ g) A xs ∧ ∀ x ∈ xs, 0 ≤ x ∧ x < 4294967296
section
variable {w w' : World} {ok ok' : Nat → Prop} {g k : Nat} {xs : List Int}
theorem IsDraws.chg {S : Nat → Prop} (h : IsDraws w ok g xs k) (hc : Chg S w w') (hs : ∀ b, ok b → ¬ S b) : IsDraws w' ok g xs k := by
  obtain ⟨h0, A, c, h1, h2, h3, h4, h5, h6⟩ := h
  exact ⟨h0, A, c, hc.heap h1 (hs g h0), h2, h3, h4, Kd.C_chg h5 hc (fun b hb => hs b hb.1), h6⟩
theorem IsDraws.mono (h : IsDraws w ok g xs k) (hk : ∀ b, ok b → ok' b) : IsDraws w ok' g xs k := by
  obtain ⟨h0, A, c, h1, h2, h3, h4, h5, h6⟩ := h
  exact ⟨hk g h0, A, c, h1, h2, h3, h4, Kd.C_mono h5 (fun b hb => ⟨hk b hb.1, hb.2⟩), h6⟩
theorem IsDraws.bound (h : IsDraws w ok g xs k) : IsDraws w (fun b => ok b ∧ b < w.heap.size) g xs k := by
  obtain ⟨h0, A, c, h1, h2, h3, h4, h5, h6⟩ := h
  exact ⟨⟨h0, heap_lt h1⟩, A, c, h1, h2, h3, h4, Kd.C_mono (Kd.C_bound h5) (fun b hb => ⟨⟨hb.1.1, hb.2⟩, hb.1.2⟩), h6⟩
theorem IsDraws.lt (h : IsDraws w ok g xs k) : g < w.heap.size := by
  obtain ⟨_, A, c, h1, _⟩ := h
  exact heap_lt h1
theorem IsDraws.ok_ (h : IsDraws w ok g xs k) : ok g := h.1
theorem IsDraws.le (h : IsDraws w ok g xs k) : k ≤ xs.length ∧ xs.length ≤ 4096 := by
  obtain ⟨_, A, c, _, _, h3, h4, _⟩ := h
  exact ⟨h4, h3⟩
theorem IsDraws.bd (h : IsDraws w ok g xs k) : ∀ x ∈ xs, 0 ≤ x ∧ x < 4294967296 := by
  obtain ⟨_, A, c, _, _, _, _, _, h6⟩ := h
  exact h6
theorem IsDraws.set_ (h : IsDraws w ok g xs k) (j : Nat) (hj : j ≤ xs.length) : IsDraws (w.setCell ⟨g, 1, none⟩ (.int .i64 j)) ok g xs j := by
  obtain ⟨h0, A, c, h1, h2, h3, h4, h5, h6⟩ := h
  refine ⟨h0, A, c, ?_, h2, h3, hj, Kd.C_step h5 (fun b hb _ => Below.heap_setCell _ _ _ _ hb.2), h6⟩
  simp [World.setCell, Array.getElem?_modify, h1]
end

/-! ### the walks -/
theorem drew_chg (S : Nat → Prop) (w : World) (n : Nat) : Chg S w (w.drewN n) := (Chg.refl S w).drewN n
set_option maxHeartbeats 400000 in
theorem draw_left {w : World} {ok : Nat → Prop} {g k : Nat} {xs : List Int} (h : IsDraws w ok g xs k) :
    Calls Try.prog 38 #[.pointer (some ⟨g, 0, none⟩)] w fun e w' => e = .returned (.int .i64 ((xs.length : Int) - k)) ∧ Chg nob w w' := by
  obtain ⟨h0, A, c, h1, h2, h3, h4, h5, h6⟩ := h
  have e0 : w.cell? ⟨g, 0, none⟩ = some (.slice A xs.length c) := by rw [cell_of_row w g 0 _ _ _ h1]; rfl
  have e1 : w.cell? ⟨g, 1, none⟩ = some (.int .i64 k) := by rw [cell_of_row w g 1 _ _ _ h1]; rfl
  clear h1 h5 h6
  generalize xs.length = n at *
  go_enter Try.func38, Try.ntmps38
  go_wp2
  go_quiet (fail)
  go_wp2
  go_ret
  exact ⟨rfl, drew_chg _ _ _⟩
set_option maxHeartbeats 400000 in
theorem draw_left_nil (w : World) :
    Calls Try.prog 38 #[.pointer none] w fun e w' => e = .returned (.int .i64 0) ∧ w = w' := by
  go_enter Try.func38, Try.ntmps38
  go_wp2
  go_ret
  exact ⟨rfl, rfl⟩

theorem draw_fits (x m : Int) (h1 : 0 ≤ x) (h2 : x < 4294967296) (h3 : 2 ≤ m) (h4 : m ≤ 2147483648) : wrap64 (IntKind.u64.wrap (x * m) / 4294967296) = x * m / 4294967296 := by
  have a1 : 0 ≤ x * m := Int.mul_nonneg h1 (by omega)
  have a2 : x * m ≤ 4294967295 * m := Int.mul_le_mul_of_nonneg_right (by omega) (by omega)
  have e : IntKind.u64.wrap (x * m) = x * m := by
    simp [IntKind.wrap, IntKind.bits, IntKind.signed]
    omega
  rw [e]
  unfold wrap64
  omega
set_option maxHeartbeats 400000 in
theorem draw_below {w : World} {ok : Nat → Prop} {g k : Nat} {xs : List Int} (h : IsDraws w ok g xs k) (m : Int) :
    Calls Try.prog 36 #[.pointer (some ⟨g, 0, none⟩), .int .i64 m] w fun e w' => e = .returned (.int .i64 (drawVal xs k m)) ∧ IsDraws w' ok g xs (k + drawAdv xs k m) ∧ Chg (fun b => b = g) w w' := by
  by_cases hm : m < 2
  · have HV := Lib.hid (drawVal_small (xs := xs) (k := k) (.inl hm))
    have HA := Lib.hid (drawAdv_small (xs := xs) (k := k) (.inl hm))
    have H := h
    clear h
    go_enter Try.func36, Try.ntmps36
    go_wp2
    go_ret
    rw [HV.out, HA.out]
    exact ⟨rfl, H, Chg.refl _ _⟩
  by_cases hk : xs.length ≤ k
  · have HV := Lib.hid (drawVal_small (xs := xs) (k := k) (m := m) (.inr hk))
    have HA := Lib.hid (drawAdv_small (xs := xs) (k := k) (m := m) (.inr hk))
    have hl := h.le
    have hz : ((xs.length : Int) - (k : Int) == 0) = true := by rw [beq_iff_eq]; omega
    go_enter Try.func36, Try.ntmps36
    go_wp2_with fail
    refine (draw_left h).mono ?_
    rintro e w' ⟨rfl, hc⟩
    go_wp2
    go_ret
    rw [HV.out, HA.out]
    exact ⟨rfl, h.chg hc (fun b _ => not_nob b), hc.ofNew⟩
  · have HV := Lib.hid (drawVal_big (xs := xs) (k := k) (m := m) (by omega))
    have HA := Lib.hid (drawAdv_big (xs := xs) (k := k) (m := m) (by omega))
    have hl := h.le
    have hz : ((xs.length : Int) - (k : Int) == 0) = false := by rw [beq_eq_false_iff_ne]; omega
    have hlt : k < xs.length := by omega
    go_enter Try.func36, Try.ntmps36
    go_wp2_with fail
    refine (draw_left h).mono ?_
    rintro e w' ⟨rfl, hc⟩
    have h' := h.chg hc (fun b _ => not_nob b)
    have H := h'
    obtain ⟨h0, A, c, h1, h2, h3, h4, h5, h6⟩ := h'
    have e0 : w'.cell? ⟨g, 0, none⟩ = some (.slice A xs.length c) := by rw [cell_of_row w' g 0 _ _ _ h1]; rfl
    have e1 : w'.cell? ⟨g, 1, none⟩ = some (.int .i64 k) := by rw [cell_of_row w' g 1 _ _ _ h1]; rfl
    have ef : w'.frozen? ⟨g, 1, none⟩ = false := by simp [World.frozen?, h1]
    obtain ⟨ad, hA, hok, hx⟩ := at_scalar h5 (List.getElem?_eq_getElem hlt)
    subst hA
    have hx' : w'.cell? (ad.add k) = some (.int .u32 (xs.getD k 0)) := by rw [hx, List.getD_eq_getElem?_getD, List.getElem?_eq_getElem hlt]; rfl
    have hb := h6 xs[k] (List.getElem_mem hlt)
    have hb' : 0 ≤ xs.getD k 0 ∧ xs.getD k 0 < 4294967296 := by rw [List.getD_eq_getElem?_getD, List.getElem?_eq_getElem hlt]; exact hb
    clear h1 h5 h6 hx hb h
    obtain ⟨x, hxe⟩ : ∃ x, xs.getD k 0 = x := ⟨_, rfl⟩
    rw [hxe] at hx' hb' HV
    clear hxe
    obtain ⟨b1, b2⟩ := hb'
    have b3 : (0 : Int) ≤ (k : Int) := by omega
    have b4 : (k : Int) < (xs.length : Int) := by omega
    go_wp2
    go_quiet (fail)
    go_wp2
    all_goals
      go_ret
      rw [HV.out, HA.out]
      have hcc : Chg (fun b => b = g) w w' := hc.ofNew
      refine ⟨?_, (IsDraws.chg H (drew_chg nob w' _) (fun b _ => not_nob b)).set_ (k + 1) hlt, (hcc.drewN _).setCell (p := ⟨g, 1, none⟩) (.inl rfl) _⟩
    · rw [draw_fits x 2147483648 b1 b2 (by omega) (by omega), Int.min_eq_right (by omega)]; rfl
    · rw [draw_fits x m b1 b2 (by omega) (by omega), Int.min_eq_left (by omega)]; rfl

theorem u32_info : (Try.prog.info? 84).map (fun i => (i.zero, i.size, i.bytes)) = some (some (.int .u32 0), 1, 4) := by kernel_rfl
theorem empty_own (w : World) (base : Nat) (e : TypeId) {α : Type} (d : Kd α) (hb : base ≤ w.heap.size) : d.R e (w.alloc (.cells #[] e)) base (fun k => k = w.heap.size) (.slice (some ⟨w.heap.size, 0, none⟩) 0 0) [] :=
  ⟨fun k hk => by cases hk; rfl, [], World.ownsRow_lit w #[] 0 hb (by simp [maxLen]) (by simp), Reps.nil⟩
/-- What New leaves. -/
def DrawNew (w : World) (xs : List Int) (e : Ending) (w' : World) : Prop := ∃ g, e = .returned (.pointer (some ⟨g, 0, none⟩)) ∧ IsDraws w' (fun b => w.heap.size ≤ b) g (xs.take 4096) 0 ∧ Chg nob w w'
theorem draw_new_end {w w1 : World} {xs ys : List Int} {A : Option Addr} {m c : Nat} (hy : xs.take 4096 = ys) (hm : ys.length = m) (hR : (Kd.int .u32).R 84 w1 w.heap.size (fun k => some k = (Value.slice A m c).ownBlock) (.slice A m c) ys) (hC : Chg nob w w1) (hb : ∀ x ∈ xs, 0 ≤ x ∧ x < 4294967296) :
    DrawNew w xs (.returned (.pointer (some ⟨w1.heap.size, 0, none⟩))) (w1.alloc (.cells #[.slice A m c, .int .i64 0] 72)) := by
  subst hy hm
  obtain ⟨A', c', hv, hl, hr⟩ := Kd.R_C hR
  cases hv
  have hs := hC.size
  exact ⟨_, rfl, ⟨by simpa using hs, A, c, heap_alloc_new w1 _, hl, by simp; omega, Nat.zero_le _, Kd.C_mono (Kd.C_new (Kd.C_bound hr) ((Chg.refl _ _).alloc _)) (fun k hk => ⟨(Kd.R_own hR k hk.1.symm).1, by have := hk.2; omega⟩), fun x hx => hb x (List.mem_of_mem_take hx)⟩, hC.alloc _⟩
set_option maxHeartbeats 400000 in
theorem draw_new {w : World} {ok : Nat → Prop} {A : Option Addr} {c : Nat} {xs : List Int} (h : (Kd.int .u32).C w ok A xs) (hc : xs.length ≤ c) (hb : ∀ x ∈ xs, 0 ≤ x ∧ x < 4294967296) :
    Calls Try.prog 14 #[.slice A xs.length c] w (DrawNew w xs) := by
  have hs := h.small
  have c0 : Chg nob w (w.alloc (.cells #[] 84)) := (Chg.refl _ _).alloc _
  by_cases hn : xs.length ≤ 4096
  · go_enter Try.func14, Try.ntmps14
    go_wp2_with (at_builtin; refine wp_appendF (d := Kd.int .u32) Kd.scalar_flat rfl _ _ 50 rfl 84 (.int .u32 0) 4 Try.underlying50 u32_info rfl w.heap.size (fun k => k = w.heap.size) ok _ [] xs A _ _ rfl rfl rfl (empty_own w _ _ _ (Nat.le_refl _)) (Kd.C_new h c0) ?h2 ?h3 (by simp) _ (Nat.zero_add _) ?h4)
    case h2 => simp [maxLen]; omega
    case h3 => simp; omega
    case h4 =>
      intro A1 c1 w1 hR hC hat
      have HE := Lib.hid (draw_new_end (w := w) (List.take_of_length_le hn) rfl hR (c0.trans hC (fun i hi => by cases hi; exact .inr (Nat.le_refl _))) hb)
      clear hR hat
      go_wp2
      go_ret
      exact HE.out
  · have hl4 : (xs.take 4096).length = 4096 := by simp; omega
    go_enter Try.func14, Try.ntmps14
    go_wp2_with (at_builtin; refine wp_appendF (d := Kd.int .u32) Kd.scalar_flat rfl _ _ 50 rfl 84 (.int .u32 0) 4 Try.underlying50 u32_info rfl w.heap.size (fun k => k = w.heap.size) ok _ [] (xs.take 4096) A _ _ rfl rfl (by simp; omega) (empty_own w _ _ _ (Nat.le_refl _)) (Kd.C_take (Kd.C_new h c0) 4096 (by omega)) ?h2 ?h3 (by simp) _ (Nat.zero_add _) ?h4)
    case h2 => simp [maxLen]; omega
    case h3 => simp; omega
    case h4 =>
      intro A1 c1 w1 hR hC hat
      have HE := Lib.hid (draw_new_end (w := w) rfl hl4 hR (c0.trans hC (fun i hi => by cases hi; exact .inr (Nat.le_refl _))) hb)
      clear hR hat
      go_wp2
      go_ret
      exact HE.out
end Go.Proofs.Ythjlgcooihpakaa
