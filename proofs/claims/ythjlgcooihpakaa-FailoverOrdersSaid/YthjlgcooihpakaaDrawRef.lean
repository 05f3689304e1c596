/- The reference's draws: the same numbers. -/
import Derived.Test.YthjlgcooihpakaaDrawOrd
import Derived.RegionTactic
import Derived.BigRegion
namespace Go.Proofs.Ythjlgcooihpakaa
open Go.RowKit
set_option linter.unusedVariables false

/-- Block g is the reference's draws; the row itself rests on ok. -/
def IsRef (w : World) (ok : Nat → Prop) (g : Nat) (xs : List Int) (k : Nat) : Prop :=
  ¬ ok g ∧ ∃ A c, w.heap[g]? = some (.cells #[.slice A xs.length c, .int .i64 k] 74 (0, 0)) ∧ xs.length ≤ c ∧ xs.length ≤ 4096 ∧ k ≤ xs.length ∧ (Kd.int .u32).C w ok A xs ∧ ∀ x ∈ xs, 0 ≤ x ∧ x < 4294967296
section
variable {w w' : World} {ok ok' : Nat → Prop} {g k : Nat} {xs : List Int}
theorem IsRef.chg {S : Nat → Prop} (h : IsRef w ok g xs k) (hc : Chg S w w') (hg : ¬ S g) (hs : ∀ b, ok b → ¬ S b) : IsRef w' ok g xs k := by
  obtain ⟨h0, A, c, h1, h2, h3, h4, h5, h6⟩ := h
  exact ⟨h0, A, c, hc.heap h1 hg, h2, h3, h4, Kd.C_chg h5 hc hs, h6⟩
theorem IsRef.new (h : IsRef w ok g xs k) (hc : Chg nob w w') : IsRef w' ok g xs k := h.chg hc (not_nob g) (fun b _ => not_nob b)
theorem IsRef.lt (h : IsRef w ok g xs k) : g < w.heap.size := by
  obtain ⟨_, A, c, h1, _⟩ := h
  exact heap_lt h1
theorem IsRef.le (h : IsRef w ok g xs k) : k ≤ xs.length ∧ xs.length ≤ 4096 := by
  obtain ⟨_, A, c, _, _, h3, h4, _⟩ := h
  exact ⟨h4, h3⟩
theorem IsRef.bd (h : IsRef w ok g xs k) : ∀ x ∈ xs, 0 ≤ x ∧ x < 4294967296 := by
  obtain ⟨_, A, c, _, _, _, _, _, h6⟩ := h
  exact h6
theorem IsRef.set_ (h : IsRef w ok g xs k) (j : Nat) (hj : j ≤ xs.length) : IsRef (w.setCell ⟨g, 1, none⟩ (.int .i64 j)) ok g xs j := by
  obtain ⟨h0, A, c, h1, h2, h3, h4, h5, h6⟩ := h
  refine ⟨h0, A, c, ?_, h2, h3, hj, Kd.C_step h5 (fun b hb _ => Below.heap_setCell _ _ _ _ (fun e => by cases e; exact h0 hb)), h6⟩
  simp [World.setCell, Array.getElem?_modify, h1]
end
/-- What New leaves. -/
def RefNew (w : World) (ok : Nat → Prop) (xs : List Int) (e : Ending) (w' : World) : Prop := ∃ g, e = .returned (.pointer (some ⟨g, 0, none⟩)) ∧ w.heap.size ≤ g ∧ IsRef w' ok g (xs.take 4096) 0 ∧ Chg nob w w'
theorem ref_new_end {w w1 : World} {ok : Nat → Prop} {xs ys : List Int} {A : Option Addr} {m c : Nat} (hc1 : Chg nob w w1) (hy : xs.take 4096 = ys) (hm : ys.length = m) (hC : (Kd.int .u32).C w ok A ys) (hok : ∀ b, ok b → b < w.heap.size) (hl : m ≤ c) (hb : ∀ x ∈ xs, 0 ≤ x ∧ x < 4294967296) :
    RefNew w ok xs (.returned (.pointer (some ⟨w1.heap.size, 0, none⟩))) (w1.alloc (.cells #[.slice A m c, .int .i64 0] 74)) := by
  subst hy hm
  have hs := hc1.size
  exact ⟨_, rfl, hs, ⟨fun h => by have := hok _ h; omega, A, c, heap_alloc_new w1 _, hl, by simp; omega, Nat.zero_le _, Kd.C_new hC (hc1.alloc _), fun x hx => hb x (List.mem_of_mem_take hx)⟩, hc1.alloc _⟩
set_option maxHeartbeats 400000 in
theorem ref_new {w : World} {ok : Nat → Prop} {A : Option Addr} {c : Nat} {xs : List Int} (h : (Kd.int .u32).C w ok A xs) (hok : ∀ b, ok b → b < w.heap.size) (hc : xs.length ≤ c) (hb : ∀ x ∈ xs, 0 ≤ x ∧ x < 4294967296) :
    Calls Try.prog 16 #[.slice A xs.length c] w (RefNew w ok xs) := by
  have hs := h.small
  by_cases hn : xs.length ≤ 4096
  · have HE : ∀ w1, Chg nob w w1 → RefNew w ok xs (.returned (.pointer (some ⟨w1.heap.size, 0, none⟩))) (w1.alloc (.cells #[.slice A xs.length c, .int .i64 0] 74)) := fun w1 hc1 => ref_new_end hc1 (List.take_of_length_le hn) rfl h hok hc hb
    have HE := Lib.hid HE
    go_enter Try.func16, Try.ntmps16
    go_wp2
    go_ret
    exact HE.out _ (Chg.refl _ _)
  · have HE : ∀ w1, Chg nob w w1 → RefNew w ok xs (.returned (.pointer (some ⟨w1.heap.size, 0, none⟩))) (w1.alloc (.cells #[.slice A 4096 c, .int .i64 0] 74)) := fun w1 hc1 => ref_new_end hc1 rfl (by simp; omega) (Kd.C_take h 4096 (by omega)) hok (by omega) hb
    have HE := Lib.hid HE
    go_enter Try.func16, Try.ntmps16
    go_wp2
    go_ret
    exact HE.out _ (Chg.refl _ _)
theorem draw_fits2 (x m : Int) (h1 : 0 ≤ x) (h2 : x < 4294967296) (h3 : 2 ≤ m) (h4 : m ≤ 2147483648) : wrap64 (IntKind.u64.wrap ((IntKind.u64.wrap (x * m)).tdiv 4294967296)) = x * m / 4294967296 := by
  have a1 : 0 ≤ x * m := Int.mul_nonneg h1 (by omega)
  have a2 : x * m ≤ 4294967295 * m := Int.mul_le_mul_of_nonneg_right (by omega) (by omega)
  have e : ∀ y : Int, 0 ≤ y → y < 18446744073709551616 → IntKind.u64.wrap y = y := by
    intro y h1 h2
    simp [IntKind.wrap, IntKind.bits, IntKind.signed]
    omega
  rw [e _ a1 (by omega), Int.tdiv_eq_ediv_of_nonneg a1, e _ (by omega) (by omega)]
  unfold wrap64
  omega
set_option maxHeartbeats 400000 in
theorem ref_below {w : World} {ok : Nat → Prop} {g k : Nat} {xs : List Int} (h : IsRef w ok g xs k) (m : Int) :
    Calls Try.prog 37 #[.pointer (some ⟨g, 0, none⟩), .int .i64 m] w fun e w' => e = .returned (.int .i64 (drawVal xs k m)) ∧ IsRef w' ok g xs (k + drawAdv xs k m) ∧ Chg (fun b => b = g) w w' := by
  have H := h
  have hl := h.le
  obtain ⟨h0, A, c, h1, h2, h3, h4, h5, h6⟩ := h
  have e0 : w.cell? ⟨g, 0, none⟩ = some (.slice A xs.length c) := by rw [cell_of_row w g 0 _ _ _ h1]; rfl
  have e1 : w.cell? ⟨g, 1, none⟩ = some (.int .i64 k) := by rw [cell_of_row w g 1 _ _ _ h1]; rfl
  have ef : w.frozen? ⟨g, 1, none⟩ = false := by simp [World.frozen?, h1]
  by_cases hm : m < 2
  · have HV := Lib.hid (drawVal_small (xs := xs) (k := k) (.inl hm))
    have HA := Lib.hid (drawAdv_small (xs := xs) (k := k) (.inl hm))
    clear h1 h5 h6
    go_enter Try.func37, Try.ntmps37
    go_wp2
    repeat (go_quiet (fail); try go_wp2)
    go_ret
    rw [HV.out, HA.out]
    exact ⟨rfl, H.new (drew_chg _ _ _), drew_chg _ _ _⟩
  by_cases hk : xs.length ≤ k
  · have HV := Lib.hid (drawVal_small (xs := xs) (k := k) (m := m) (.inr hk))
    have HA := Lib.hid (drawAdv_small (xs := xs) (k := k) (m := m) (.inr hk))
    clear h1 h5 h6
    go_enter Try.func37, Try.ntmps37
    go_wp2
    go_quiet (fail)
    go_wp2
    go_ret
    rw [HV.out, HA.out]
    exact ⟨rfl, H.new (drew_chg _ _ _), drew_chg _ _ _⟩
  · have HV := Lib.hid (drawVal_big (xs := xs) (k := k) (m := m) (by omega))
    have HA := Lib.hid (drawAdv_big (xs := xs) (k := k) (m := m) (by omega))
    have hlt : k < xs.length := by omega
    obtain ⟨ad, hA, hok, hx⟩ := at_scalar h5 (List.getElem?_eq_getElem hlt)
    subst hA
    have hb := h6 xs[k] (List.getElem_mem hlt)
    obtain ⟨x, hxe⟩ : ∃ x, xs[k] = x := ⟨_, rfl⟩
    rw [List.getD_eq_getElem?_getD, List.getElem?_eq_getElem hlt, Option.getD_some, hxe] at HV
    rw [hxe] at hx hb
    have hx' : w.cell? (ad.add k) = some (.int .u32 x) := hx
    clear h1 h5 h6 hx hxe
    obtain ⟨b1, b2⟩ := hb
    have b3 : (0 : Int) ≤ (k : Int) := by omega
    have b4 : (k : Int) < (xs.length : Int) := by omega
    by_cases hbig : 2147483648 < m
    · go_enter Try.func37, Try.ntmps37
      go_wp2
      go_quiet (fail)
      go_wp2
      go_quiet (fail)
      go_wp2
      go_ret
      rw [HV.out, HA.out]
      refine ⟨?_, (IsRef.new H (drew_chg nob w _)).set_ (k + 1) hlt, (drew_chg _ w _).set1 1 _⟩
      rw [Int.min_eq_right (by omega), ← draw_fits x 2147483648 b1 b2 (by omega) (by omega)]; rfl
    · go_enter Try.func37, Try.ntmps37
      go_wp2
      go_quiet (fail)
      go_wp2
      go_quiet (fail)
      go_wp2
      go_ret
      rw [HV.out, HA.out]
      refine ⟨?_, (IsRef.new H (drew_chg nob w _)).set_ (k + 1) hlt, (drew_chg _ w _).set1 1 _⟩
      rw [Int.min_eq_left (by omega), ← draw_fits2 x m b1 b2 (by omega) (by omega)]; rfl

/-- Between the rounds: the row, the draws. -/
structure RefMid (w : World) (ok : Nat → Prop) (g : Nat) (xs : List Int) (v : Value) (l : List Int) (k : Nat) (wr : World) : Prop where
  row : (Kd.int .i64).R 3 wr w.heap.size (fun b => some b = v.ownBlock) v l
  d : IsRef wr ok g xs k
  chg : Chg (fun b => b = g) w wr
theorem RefMid.grow {w wr w1 : World} {ok : Nat → Prop} {g : Nat} {xs : List Int} {v v1 : Value} {l l' : List Int} {k : Nat} (h : RefMid w ok g xs v l k wr) (hg : g < w.heap.size) (hok : ∀ b, ok b → b < w.heap.size)
    (hR : (Kd.int .i64).R 3 w1 w.heap.size (fun b => some b = v1.ownBlock) v1 l') (hC : Chg (fun b => some b = v.ownBlock) wr w1) : RefMid w ok g xs v1 l' k w1 := by
  have hne : ∀ b, some b = v.ownBlock → w.heap.size ≤ b := fun b hb => (Kd.R_own h.row b hb.symm).1
  exact ⟨hR, h.d.chg hC (fun e => by have := hne g e; omega) (fun b hb e => by have := hne b e; have := hok b hb; omega), h.chg.trans hC (fun b hb => .inr (hne b hb))⟩
/-- What a call leaves that tells a new list of numbers. -/
def RefPost (w : World) (ok : Nat → Prop) (g : Nat) (xs : List Int) (l : List Int) (k : Nat) (e : Ending) (w' : World) : Prop :=
  ∃ A c, e = .returned (.slice A l.length c) ∧ l.length ≤ c ∧ (Kd.int .i64).C w' (fun b => w.heap.size ≤ b) A l ∧ IsRef w' ok g xs k ∧ Chg (fun b => b = g) w w'
theorem RefMid.post {w wr : World} {ok : Nat → Prop} {g : Nat} {xs : List Int} {A : Option Addr} {c cc : Nat} {l : List Int} {k k' : Nat} {n : Int} (h : RefMid w ok g xs (.slice A c cc) l k' wr) (he : (l, k') = drawOrd xs k n) :
    RefPost w ok g xs (drawOrd xs k n).1 (drawOrd xs k n).2 (.returned (.slice A c cc)) wr := by
  rw [← he]
  obtain ⟨A', c', hv, hl, hC⟩ := Kd.R_C h.row
  cases hv
  exact ⟨A, cc, rfl, hl, Kd.C_mono hC (fun b hb => (Kd.R_own h.row b hb.symm).1), h.d, h.chg⟩
set_option maxHeartbeats 2000000 in
theorem ref_order {w : World} {ok : Nat → Prop} {g : Nat} {k : Nat} {xs : List Int} (h : IsRef w ok g xs k) (hok : ∀ b, ok b → b < w.heap.size) (n : Int) :
    Calls Try.prog 25 #[.pointer (some ⟨g, 0, none⟩), .int .i64 n] w (RefPost w ok g xs (drawOrd xs k n).1 (drawOrd xs k n).2) := by
  have hg := h.lt
  have hM := ordM_eq n
  have hM2 := ordM_le n
  have h0 : RefMid w ok g xs (.slice none 0 0) [] k w := ⟨Kd.R_nil _ _ _ _ _, h, Chg.refl _ _⟩
  have HF : Hid (drawOrd xs k n = ordLoop xs (ordM n - 1) (places (ordM n)) k) := rfl
  generalize ordM n = M at *
  have HM := Lib.hid hM
  clear hM
  have hn : (n < 0 ∧ (M : Int) ≤ 0 ∧ (0 : Int) ≤ M) ∨ (64 < n ∧ (M : Int) ≤ 64 ∧ (64 : Int) ≤ M) ∨ (0 ≤ n ∧ n ≤ 64 ∧ (M : Int) ≤ n ∧ n ≤ M) := by have := HM.out; omega
  rcases hn with ⟨n1, n2, n3⟩ | ⟨n1, n2, n3⟩ | ⟨n1, n4, n2, n3⟩
  all_goals
    go_enter Try.func25, Try.ntmps25
    go_wp2
    go_loopw [5, 6] (fun v i wr => ∃ c : Nat, ∃ A : Option Addr, ∃ cc : Nat, c ≤ M ∧ i = .int .i64 c ∧ v = .slice A c cc ∧ RefMid w ok g xs (.slice A c cc) (places c) k wr) (fun _ i _ => M - (intOf i).toNat)
    case atStart => exact ⟨0, _, _, Nat.zero_le _, rfl, rfl, h0⟩
    case round =>
      obtain ⟨c, A, cc, hcM, rfl, rfl, hm⟩ := hrel
      by_cases hlt : c < M
      · first
        | (exfalso; omega)
        | (have f1 : (places c).length + 1 ≤ maxLen := by simp [places, maxLen]; omega
           have f2 : ((places c).length + 1) * 8 ≤ 140737488355328 := by simp [places]; omega
           have f3 : w.heap.size ≤ wr.heap.size := hm.chg.size
           have f4 : (places c).length + 1 = c + 1 := by simp [places]
           have F4 := Lib.hid f4
           clear f4
           go_wp2_with (at_builtin; refine wp_append1F (d := Kd.int .i64) Kd.scalar_flat rfl _ _ 69 rfl 3 (.int .i64 0) 8 Try.underlying69 i64_info rfl w.heap.size (fun b => some b = (Value.slice A c cc).ownBlock) (fun _ => False) (.slice A c cc) (places c) (c : Int) _ rfl rfl hm.row rfl f1 f2 f3 (c + 1) F4.out ?_)
           intro A1 c1 w1 hR hC _
           rw [← places_succ] at hR
           have hm1 := hm.grow hg hok hR hC
           clear hR hC hm f1 f2 f3
           go_wp2
           go_roundw
           case rel => exact ⟨c + 1, A1, c1, by omega, by go_num, by go_num, hm1⟩
           case measure => simp [intOf]; omega)
      · obtain rfl : c = M := by omega
        have hfin : Hid (ordLoop xs (((c : Int) - 1).toNat) (places c) k = drawOrd xs k n) := by
          have := HF.out
          rw [this]
          show ordLoop _ _ _ _ = _
          congr 1
          omega
        have hpl : (places c).length = c := by simp [places]
        have HPL := Lib.hid hpl
        clear HF HM hpl h0 h
        go_wp2
        go_loopw [7] (fun i wr' => ∃ i' : Int, ∃ l : List Int, ∃ k' : Nat, i = .int .i64 i' ∧ -1 ≤ i' ∧ i' < c ∧ Hid (l.length = c) ∧ Hid (ordLoop xs i'.toNat l k' = drawOrd xs k n) ∧ RefMid w ok g xs (.slice A c cc) l k' wr') (fun i _ => (intOf i).toNat)
        case atStart => exact ⟨(c : Int) - 1, _, _, by (first | rfl | (congr 1; omega)), by omega, by omega, HPL, hfin, hm⟩
        case round =>
          obtain ⟨i', l, k', rfl, i1, i2, HL, HO, hm'⟩ := hrel
          clear hm hfin HPL
          by_cases hpos : 0 < i'
          · first
            | (exfalso; omega)
            | (obtain ⟨J, rfl⟩ : ∃ J : Nat, i' = (J : Int) := ⟨i'.toNat, by omega⟩
               obtain ⟨r, cap, hv⟩ : ∃ r cap, Value.slice A c cc = .slice (some ⟨r, 0, none⟩) c cap := by
                 have hro := Kd.own_of_R hm'.row
                 obtain ⟨r, cap, hv, _⟩ := hro.form (by have := HL.out; omega)
                 rw [HL.out] at hv
                 exact ⟨r, cap, hv⟩
               cases hv
               have hr2 : w.heap.size ≤ r := (Kd.R_own hm'.row r rfl).1
               have hvb := drawVal_bd hm'.d.bd k' ((J : Int) + 1)
               go_wp2_with fail
               refine (ref_below hm'.d _).mono ?_
               rintro e w1 ⟨rfl, hd1, hc1⟩
               obtain ⟨q, hq⟩ : ∃ q : Nat, drawVal xs k' ((J : Int) + 1) = q := ⟨(drawVal xs k' ((J : Int) + 1)).toNat, by omega⟩
               have hro := Kd.own_of_R (Kd.R_chg hm'.row hc1 (fun b hb e => by have h1 : w.heap.size ≤ b := (Kd.R_own hm'.row b hb.symm).1; omega))
               rw [HL.out] at hro
               have HQ : Hid ((swapAt l J q).length = c ∧ ordLoop xs ((J : Int) - 1).toNat (swapAt l J q) (k' + drawAdv xs k' ((J : Int) + 1)) = drawOrd xs k n) := by
                 refine ⟨by rw [swapAt_length]; exact HL.out, ?_⟩
                 have := HO.out
                 rw [Int.toNat_natCast, ordLoop_pos xs J (by omega), hq, Int.toNat_natCast] at this
                 rw [← this, show ((J : Int) - 1).toNat = J - 1 from by omega]
               have hl := HL.out
               rw [hq] at hvb ⊢
               have hq2 : q < c := by omega
               have ei : w1.cell? ⟨r, J, none⟩ = some (.int .i64 (l.getD J 0)) := by rw [hro.cellAt J (by omega), List.getElem?_map, List.getD_eq_getElem?_getD, List.getElem?_eq_getElem (by omega)]; rfl
               have ej : w1.cell? ⟨r, q, none⟩ = some (.int .i64 (l.getD q 0)) := by rw [hro.cellAt q (by omega), List.getElem?_map, List.getD_eq_getElem?_getD, List.getElem?_eq_getElem (by omega)]; rfl
               have fi := hro.frozenAt J
               have fj := hro.frozenAt q
               obtain ⟨a, ha⟩ : ∃ a, l.getD J 0 = a := ⟨_, rfl⟩
               obtain ⟨b, hb⟩ : ∃ b, l.getD q 0 = b := ⟨_, rfl⟩
               have hS : ∀ u : Nat, RefMid w ok g xs (.slice (some ⟨r, 0, none⟩) c cc) (swapAt l J q) (k' + drawAdv xs k' ((J : Int) + 1)) (((w1.drewN u).setCell ⟨r, J, none⟩ (.int .i64 b)).setCell ⟨r, q, none⟩ (.int .i64 a)) := by
                 intro u
                 have c1 : Chg (fun b => b = r) w1 (((w1.drewN u).setCell ⟨r, J, none⟩ (.int .i64 b)).setCell ⟨r, q, none⟩ (.int .i64 a)) := ((drew_chg _ _ _).set1 _ _).set1 _ _
                 refine ⟨?_, hd1.chg c1 (by have := hm'.d.lt; have := hm'.chg.size; omega) (fun b hb e => by have := hok b hb; omega), (hm'.chg.trans hc1 (fun b hb => .inl hb)).trans c1 (fun b hb => .inr (by omega))⟩
                 refine Kd.R_of_own (n := c) ?_
                 have hro' : (w1.drewN u).ownsRow w.heap.size 3 1 (.slice (some ⟨r, 0, none⟩) c cc) c (l.map (Value.int .i64)) := Kd.own_move hro (fun _ _ => rfl)
                 have h1 := ((hro'.stored J (.int .i64 b)).1.stored q (.int .i64 a)).1
                 rw [← ha, ← hb, ← List.map_set, ← List.map_set] at h1
                 rw [← ha, ← hb]
                 exact h1
               rw [ha] at ei
               rw [hb] at ej
               have HS := Lib.hid hS
               have b1 : (0 : Int) ≤ (J : Int) := by omega
               have b2 : (J : Int) < (c : Int) := by omega
               have b3 : (0 : Int) ≤ (q : Int) := by omega
               have b4 : (q : Int) < (c : Int) := by omega
               clear ha hb hS hro hq hd1 hc1 hm' HL HO hl hvb
               go_wp2
               go_quiet (fail)
               obtain ⟨v', hv'⟩ := cell?_setCell_some (w := w1.drewN nq) (p := ⟨r, J, none⟩) (x := .int .i64 b) (q := ⟨r, q, none⟩) (v := .int .i64 b) ej
               go_wp2
               go_roundw
               case rel => exact ⟨(J : Int) - 1, _, _, by (first | rfl | go_num), by omega, by omega, HQ.out.1, HQ.out.2, HS.out _⟩
               case measure => simp [intOf]; omega)
          · have HE := Lib.hid (hm'.post (k := k) (n := n) (by rw [← HO.out, show i'.toNat = 0 from by omega]; rfl))
            clear HL HO
            go_wp2
            go_ret
            exact HE.out
end Go.Proofs.Ythjlgcooihpakaa
