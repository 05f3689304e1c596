/- Rows of numbers: what the library's and the reference's small functions on them tell. -/
import Derived.Test.YtoiikjojknnobaaProbeSame
import Derived.Deep.RegionHeld3
import Derived.Deep.DrawnRows
import Derived.ArgAppend
import Derived.Lib.SliceRun
import Derived.Handy
namespace Go.Proofs.Ytoiikjojknnobaa
open Go.RowKit
set_option linter.unusedVariables false
set_option linter.unusedSimpArgs false
abbrev intK : Kd Int := Kd.int .i64
theorem wpAnyH_weaken {P : Program} {ops : Array Oper} {Q : Exit → Act → World → Prop} {md : Region.Mode} {S S' : World → Prop} (hs : ∀ w, S' w → S w) : ∀ (fuel : Nat) (listed : Array Bool) (a : Act) (w : World), wpAnyH P md ops Q S' fuel listed a w → wpAnyH P md ops Q S fuel listed a w
  | 0, _, _, _, h => h
  | fuel + 1, _, _, _, h => ⟨h.1, fun i hi => wpOp_mono (fun a' w' h' => ⟨hs _ h'.1, wpAnyH_weaken hs fuel _ a' w' h'.2⟩) (h.2 i hi)⟩
theorem pick0 {o : Oper} {l : List Oper} : (o :: l).toArray[0]? = some o := rfl
theorem pickS {o x : Oper} {l : List Oper} {i : Nat} (h : l.toArray[i]? = some x) : (o :: l).toArray[i + 1]? = some x := by simpa using h
section
variable {ops : Array Oper} {Q : Exit → Act → World → Prop} {rest : List Oper} {a : Act} {w : World} {o : Oper}
/-- append(v, y) -/
theorem wp_app1I (hgd : o.guard = none) (s x : Operand) (ho : o.op = .call { callee := .builtin .append, args := #[s, x], argTypes := #[28, 28] })
    (base : Nat) (ok : Nat → Prop) (v : Value) (xs : List Int) (y : Int) (hs : a.eval s = v) (hx : a.eval x = .slice (some ⟨w.heap.size, 0, none⟩) 1 1)
    (hr : intK.R 3 w base ok v xs) (hbase : base ≤ w.heap.size) (len : Nat) (hlen : xs.length + 1 = len) (hl : len ≤ 1000000000000)
    (h : ∀ A' c' w', intK.R 3 w' base (fun k => some k = (Value.slice A' len c').ownBlock) (.slice A' len c') (xs ++ [y]) → Chg (fun k => some k = v.ownBlock) w w' → ((Value.slice A' len c').ownBlock = v.ownBlock ∨ ∃ k, (Value.slice A' len c').ownBlock = some k ∧ w.heap.size ≤ k) → wpList Try.prog ops Q rest (a.put o.dst (.slice A' len c')) w') :
    wpList Try.prog ops Q (o :: rest) a (w.alloc (.cells #[.int .i64 y] 3)) :=
  wp_append1F (d := intK) Kd.scalar_flat hgd s x 28 ho 3 (.int .i64 0) 8 Try.underlying28 i64_info rfl base ok (fun _ => False) v xs y #[.int .i64 y] hs hx hr rfl (by unfold maxLen; omega) (by omega) hbase len hlen h
/-- append(v, ys...), v of the call's own -/
theorem wp_appI (hgd : o.guard = none) (s x : Operand) (ho : o.op = .call { callee := .builtin .append, args := #[s, x], argTypes := #[28, 28] })
    (base : Nat) (ok ok2 : Nat → Prop) (v : Value) (xs ys : List Int) (A : Option Addr) (m c : Nat) (hs : a.eval s = v) (hx : a.eval x = .slice A m c) (hm : ys.length = m)
    (hr : intK.R 3 w base ok v xs) (hy : intK.C w ok2 A ys) (hbase : base ≤ w.heap.size) (len : Nat) (hlen : xs.length + m = len) (hl : len ≤ 1000000000000)
    (h : ∀ A' c' w', intK.R 3 w' base (fun k => some k = (Value.slice A' len c').ownBlock) (.slice A' len c') (xs ++ ys) → Chg (fun k => some k = v.ownBlock) w w' → ((Value.slice A' len c').ownBlock = v.ownBlock ∨ (Value.slice A' len c').ownBlock = some w.heap.size) → wpList Try.prog ops Q rest (a.put o.dst (.slice A' len c')) w') :
    wpList Try.prog ops Q (o :: rest) a w :=
  wp_appendF (d := intK) Kd.scalar_flat hgd s x 28 ho 3 (.int .i64 0) 8 Try.underlying28 i64_info rfl base ok ok2 v xs ys A m c hs hx hm hr hy (by unfold maxLen; omega) (by omega) hbase len hlen h
end
/-- What append does with a row of whatever memory, when it must grow: a row of its own. -/
theorem run_growI {w : World} {ok ok2 : Nat → Prop} {ty : TypeId} {A B : Option Addr} {n cap m c : Nat} {xs ys : List Int} (hA : intK.C w ok A xs) (hn : xs.length = n) (h0 : A = none → n = 0 ∧ cap = 0) (hB : intK.C w ok2 B ys) (hm : ys.length = m) (hm0 : 0 < m) (hfull : cap < n + m) (hl : n + m ≤ 1000000000000) :
    ∃ A' c' w', (Builtin.append_ #[28, 28] ty #[.slice A n cap, .slice B m c]).run Try.prog w = .ok (.slice A' (n + m) c') w' ∧ intK.R 3 w' w.heap.size (fun k => some k = (Value.slice A' (n + m) c').ownBlock) (.slice A' (n + m) c') (xs ++ ys) ∧ Chg nob w w' := by
  obtain ⟨i, hi, hzz⟩ := Option.map_eq_some_iff.1 i64_info
  simp only [Prod.mk.injEq] at hzz
  obtain ⟨hz0, hz1, hz2⟩ := hzz
  obtain ⟨k1, us, ku, kc⟩ := hA
  obtain ⟨j1, vs, jv, jc⟩ := hB
  obtain ⟨ad, rfl, _, hcell⟩ := jc (by omega)
  have hus := reps_scalar ku
  have hvs := reps_scalar jv
  have hv1 : ∀ u ∈ vs, u.oneCell' = true := by
    intro u hu
    rw [hvs] at hu
    obtain ⟨y, _, rfl⟩ := List.mem_map.1 hu
    rfl
  have key : ∃ v' w', (Builtin.append_ #[28, 28] ty #[.slice A n cap, .slice (some ad) m c]).run Try.prog w = .ok v' w' ∧ w'.ownsRow w.heap.size 3 1 v' (n + m) (us ++ vs) ∧ w.grownBy w' none := by
    cases A with
    | some b =>
      exact run_append_arg_grows (P := Try.prog) w 28 ty 3 i (.int .i64 0) 1 8 Try.underlying28 hi hz0 hz1 hz2 rfl (by decide) b n cap us (by rw [hus]; simp [hn]) (fun j u hu => by
        have hp : 0 < xs.length := by
          apply Nat.pos_of_ne_zero
          intro e
          rw [hus, List.eq_nil_of_length_eq_zero e] at hu
          simp at hu
        obtain ⟨ad', e', _, hx⟩ := kc hp
        cases e'
        exact hx j u hu) ad m c vs (by rw [hvs]; simp [hm]) hcell hfull (by unfold maxLen; omega) (by omega)
    | none =>
      obtain ⟨rfl, rfl⟩ := h0 rfl
      have hu0 : us = [] := by rw [hus, List.eq_nil_of_length_eq_zero hn]; rfl
      subst hu0
      obtain ⟨v', w', hrun, r1, r2, _⟩ := run_append_own (P := Try.prog) w w.heap.size 28 ty 3 i (.int .i64 0) 1 8 Try.underlying28 hi hz0 hz1 hz2 rfl (by decide) (.slice none 0 0) 0 [] (World.ownsRow_nil w _ 3 1) ad m c vs (by rw [hvs]; simp [hm]) hcell hv1 (by unfold maxLen; omega) (by omega) (Nat.le_refl _)
      exact ⟨v', w', hrun, r1, r2⟩
  obtain ⟨v', w', hrun, ho, hg⟩ := key
  have hR : intK.R 3 w' w.heap.size (fun k => some k = v'.ownBlock) v' (xs ++ ys) := Kd.R_of_own (by rw [List.map_append]; rw [hus, hvs] at ho; exact ho)
  obtain ⟨A', c', hv, _⟩ := Kd.R_slice' hR (m := n + m) (by rw [List.length_append, hn, hm])
  subst hv
  exact ⟨A', c', w', hrun, hR, ⟨hg.os, hg.tape, hg.output, hg.size, fun k hk _ => hg.block k hk (fun e => by cases e)⟩⟩
/-! ### slices.Index, slices.Contains, the reference's Has -/
/-- The first place of a number; -1: none. -/
def idxI (l : List Int) (x : Int) : Int := if x ∈ l then (l.idxOf x : Int) else -1
theorem idxOf_at : ∀ {l : List Int} {x : Int} {k : Nat}, l[k]? = some x → x ∉ l.take k → l.idxOf x = k
  | [], x, k, h, _ => by simp at h
  | y :: l, x, 0, h, _ => by simp at h; subst h; simp
  | y :: l, x, k + 1, h, hn => by
    rw [List.take_succ_cons, List.mem_cons, not_or] at hn
    rw [List.getElem?_cons_succ] at h
    rw [List.idxOf_cons, idxOf_at h hn.2]
    have : (y == x) = false := by simpa using fun e => hn.1 e.symm
    rw [this]
    rfl
theorem idx_found {l : List Int} {x : Int} {k : Nat} (h : l[k]? = some x) (hn : x ∉ l.take k) : idxI l x = k := by
  rw [idxI, if_pos (List.mem_of_getElem? h), idxOf_at h hn]
theorem mem_take_succ {l : List Int} {x y : Int} {k : Nat} (h : l[k]? = some y) (hn : x ∉ l.take k) (hxy : ¬ x = y) : x ∉ l.take (k + 1) := by
  obtain ⟨hj, he⟩ := List.getElem?_eq_some_iff.1 h
  rw [List.take_succ_eq_append_getElem hj, he, List.mem_append, not_or]
  exact ⟨hn, by simpa using hxy⟩
set_option maxHeartbeats 400000 in
theorem l_index {w : World} {ok : Nat → Prop} {A : Option Addr} {n c : Nat} {l : List Int} (h : intK.C w ok A l) (hn : l.length = n) (x : Int) :
    Calls Try.prog 33 #[.slice A n c, .int .i64 x] w fun e w' => e = .returned (.int .i64 (idxI l x)) ∧ w' = w := by
  have hsm := h.small
  rw [hn] at hsm
  have HC := Lib.hid h
  have HN := Lib.hid hn
  have HT0 : Hid (x ∉ l.take 0) := by show ¬ _; simp
  clear h hn
  go_enter Try.func33, Try.ntmps33
  go_wp2
  go_loopw [8] (fun i wr => ∃ k : Nat, k ≤ n ∧ i = .int .i64 k ∧ Hid (x ∉ l.take k) ∧ wr = w) (fun i _ => n - (intOf i).toNat)
  case atStart => exact ⟨0, Nat.zero_le _, rfl, HT0, rfl⟩
  case round =>
    obtain ⟨k, hk, rfl, HT, rfl⟩ := hrel
    clear HT0
    by_cases hlt : k < n
    · have b1 : (k : Int) < (n : Int) := by omega
      have b3 : (0 : Int) ≤ (k : Int) := by omega
      obtain ⟨y, hy⟩ : ∃ y, l[k]? = some y := ⟨_, List.getElem?_eq_getElem (by rw [HN.out]; exact hlt)⟩
      obtain ⟨ad, rfl, _, hcell⟩ := at_scalar HC.out hy
      by_cases hxy : x = y
      · subst hxy
        have HR := Lib.hid (idx_found hy HT.out)
        have t : (x == x) = true := by simp
        clear hy
        go_wp2
        go_ret
        rw [HR.out]
        exact ⟨rfl, rfl⟩
      · have HT2 := Lib.hid (mem_take_succ hy HT.out hxy)
        have t : (x == y) = false := by simpa using hxy
        clear hy hxy
        go_wp2
        exact ⟨⟨k + 1, by omega, by go_num, HT2, trivial⟩, by simp [intOf]; omega⟩
    · obtain rfl : k = n := by omega
      have b1 : ¬ (k : Int) < (k : Int) := by omega
      have HR : Hid (idxI l x = -1) := by
        have h1 := HT.out
        rw [← HN.out, List.take_length] at h1
        exact if_neg h1
      go_wp2
      go_ret
      rw [HR.out]
      exact ⟨rfl, rfl⟩
theorem idxI_mem {l : List Int} {x : Int} (h : x ∈ l) : 0 ≤ idxI l x := by rw [idxI, if_pos h]; omega
theorem idxI_not {l : List Int} {x : Int} (h : x ∉ l) : idxI l x = -1 := if_neg h
theorem l_contains {w : World} {ok : Nat → Prop} {A : Option Addr} {n c : Nat} {l : List Int} (h : intK.C w ok A l) (hn : l.length = n) (x : Int) :
    Calls Try.prog 26 #[.slice A n c, .int .i64 x] w fun e w' => e = .returned (.bool (decide (x ∈ l))) ∧ w' = w := by
  have HI := Lib.hid (l_index (c := c) h hn x)
  go_enter Try.func26, Try.ntmps26
  clear h hn
  go_wp2_with fail
  refine HI.out.mono ?_
  rintro e w' ⟨rfl, rfl⟩
  by_cases hx : x ∈ l
  · have h1 := idxI_mem hx
    have HD : Hid (decide (x ∈ l) = true) := decide_eq_true hx
    generalize idxI l x = j at h1 ⊢
    clear hx
    go_wp2
    go_ret
    rw [HD.out]
    exact ⟨rfl, rfl⟩
  · rw [idxI_not hx]
    have HD : Hid (decide (x ∈ l) = false) := decide_eq_false hx
    clear hx
    go_wp2
    go_ret
    rw [HD.out]
    exact ⟨rfl, rfl⟩
set_option maxHeartbeats 400000 in
theorem r_has {w : World} {ok : Nat → Prop} {A : Option Addr} {n c : Nat} {l : List Int} (h : intK.C w ok A l) (hn : l.length = n) (x : Int) :
    Calls Try.prog 14 #[.slice A n c, .int .i64 x] w fun e w' => e = .returned (.bool (decide (x ∈ l))) ∧ w' = w := by
  have hsm := h.small
  rw [hn] at hsm
  have HC := Lib.hid h
  have HN := Lib.hid hn
  have HT0 : Hid (x ∉ l.take 0) := by show ¬ _; simp
  clear h hn
  go_enter Try.func14, Try.ntmps14
  go_wp2
  go_loopw [5] (fun i wr => ∃ k : Nat, k ≤ n ∧ i = .int .i64 k ∧ Hid (x ∉ l.take k) ∧ wr = w) (fun i _ => n - (intOf i).toNat)
  case atStart => exact ⟨0, Nat.zero_le _, rfl, HT0, rfl⟩
  case round =>
    obtain ⟨k, hk, rfl, HT, rfl⟩ := hrel
    clear HT0
    by_cases hlt : k < n
    · have b1 : (k : Int) < (n : Int) := by omega
      have b3 : (0 : Int) ≤ (k : Int) := by omega
      obtain ⟨y, hy⟩ : ∃ y, l[k]? = some y := ⟨_, List.getElem?_eq_getElem (by rw [HN.out]; exact hlt)⟩
      obtain ⟨ad, rfl, _, hcell⟩ := at_scalar HC.out hy
      by_cases hxy : x = y
      · subst hxy
        have HD : Hid (decide (x ∈ l) = true) := decide_eq_true (List.mem_of_getElem? hy)
        have t : (x == x) = true := by simp
        clear hy
        go_wp2
        go_ret
        rw [HD.out]
        exact ⟨rfl, rfl⟩
      · have HT2 := Lib.hid (mem_take_succ hy HT.out hxy)
        have t : (y == x) = false := by simpa using fun e => hxy e.symm
        clear hy hxy
        go_wp2
        exact ⟨⟨k + 1, by omega, by go_num, HT2, trivial⟩, by simp [intOf]; omega⟩
    · obtain rfl : k = n := by omega
      have b1 : ¬ (k : Int) < (k : Int) := by omega
      have HD : Hid (decide (x ∈ l) = false) := by
        have h1 := HT.out
        rw [← HN.out, List.take_length] at h1
        exact decide_eq_false h1
      go_wp2
      go_ret
      rw [HD.out]
      exact ⟨rfl, rfl⟩
/-! ### slices.Clone -/
def Cloned (w : World) (l : List Int) (e : Ending) (w' : World) : Prop := ∃ A c, e = .returned (.slice A l.length c) ∧ l.length ≤ c ∧ intK.C w' (fun b => w.heap.size ≤ b) A l ∧ Chg nob w w'
theorem l_clone {w : World} {ok : Nat → Prop} {A : Option Addr} {n c : Nat} {l : List Int} (h : intK.C w ok A l) (hn : l.length = n) (hl : n ≤ 1000000000000) (h0 : A = none → c = 0) :
    Calls Try.prog 30 #[.slice A n c] w (Cloned w l) := by
  have hsm := h.small
  have HC := Lib.hid h
  have HN := Lib.hid hn
  have heq := fun (wx : World) => Lib.run_eql_slice_nil (P := Try.prog) wx 28 3 A n c 0 0 Try.underlying28
  go_enter Try.func30, Try.ntmps30
  cases A with
  | none =>
    have hln : l = [] := by
      apply Classical.byContradiction
      intro hne
      obtain ⟨_, inner, _, hc⟩ := h
      obtain ⟨ad, e, _⟩ := hc (List.length_pos_iff.2 hne)
      cases e
    subst hln
    obtain rfl : n = 0 := hn.symm
    obtain rfl := h0 rfl
    clear h hsm h0 hn
    go_wp2
    go_ret
    exact ⟨none, 0, rfl, Nat.le_refl _, Kd.C_nil _ _ _ _, Chg.refl _ _⟩
  | some ad =>
    have HE : Hid (intK.R 3 (w.alloc (.cells #[] 3)) w.heap.size (fun k => k = w.heap.size) (.slice (some ⟨w.heap.size, 0, none⟩) 0 0) ([] : List Int)) := empty_own w w.heap.size 3 intK (Nat.le_refl _)
    have HC1 := Lib.hid (Kd.C_new HC.out ((Chg.refl nob w).alloc (.cells #[] 3)))
    clear h hsm h0 hn
    go_wp2_with (at_builtin; refine wp_appI rfl _ _ rfl w.heap.size _ _ (.slice (some ⟨w.heap.size, 0, none⟩) 0 0) ([] : List Int) l (some ad) n c rfl rfl HN.out HE.out HC1.out (by simp) n ?_ ?_ ?_)
    · simp
    · exact hl
    intro A1 c1 w1 hR hC _
    have hc1 : Chg nob w w1 := ((Chg.refl _ w).alloc _).trans hC (fun b hb => .inr (by
      have : some b = some w.heap.size := hb
      cases this
      exact Nat.le_refl _))
    obtain ⟨k1, k2, k3⟩ := Kd.R_read (Kd.R_ge Kd.scalar_flat hR)
    have HK := Lib.hid k1
    have HK2 := Lib.hid k2
    clear hR hC HE k1 k2
    go_wp2
    go_ret
    refine ⟨A1, c1, ?_, by rw [HN.out]; exact k3, HK.out, hc1⟩
    rw [HN.out]
    rfl
end Go.Proofs.Ytoiikjojknnobaa
