/- Lists of texts: what the library's and the reference's small functions on them tell; slices.Clone. -/
import Derived.Test.YtkclceghhebfaaaKit
import Derived.Test.YtkclceghhebfaaaProg
import Derived.Lib.SliceRun
import Derived.Handy
import Derived.Laws.Strings
namespace Go.Proofs.Ytkclceghhebfaaa
open Go.RowKit
set_option linter.unusedVariables false
set_option linter.unusedSimpArgs false
abbrev strK : Kd ByteArray := Kd.string
instance bytesDec : DecidableEq ByteArray := fun a b => if h : a.data = b.data then .isTrue (by cases a; cases b; simp_all) else .isFalse (fun e => h (by rw [e]))
def memDecL (x : ByteArray) : ∀ l : List ByteArray, Decidable (x ∈ l)
  | [] => .isFalse (by simp)
  | y :: l => if h : x = y then .isTrue (by rw [h]; exact List.mem_cons_self) else match memDecL x l with
    | .isTrue k => .isTrue (List.mem_cons_of_mem _ k)
    | .isFalse k => .isFalse (fun e => by rcases List.mem_cons.1 e with e | e; exact h e; exact k e)
instance memDec (x : ByteArray) (l : List ByteArray) : Decidable (x ∈ l) := memDecL x l
theorem str_eq (a b : ByteArray) : (a.toList == b.toList) = decide (a = b) := by
  rw [ByteArray.toList_eq, ByteArray.toList_eq]
  by_cases h : a = b
  · subst h; simp
  · rw [decide_eq_false h]
    simp only [beq_eq_false_iff_ne, ne_eq]
    intro e
    apply h
    cases a; cases b
    simp only [ByteArray.mk.injEq]
    exact Array.toList_inj.1 e
theorem str_ne (a b : ByteArray) : (a.toList != b.toList) = !decide (a = b) := by rw [bne, str_eq]
theorem sdrew (S : Nat → Prop) (w : World) (n : Nat) : Chg S w (w.drewN n) := ⟨rfl, rfl, rfl, Nat.le_refl _, fun _ _ _ => rfl⟩
theorem mem_take_next {α : Type} {l : List α} {x y : α} {k : Nat} (h : l[k]? = some y) (hn : x ∉ l.take k) (hxy : ¬ x = y) : x ∉ l.take (k + 1) := by
  obtain ⟨hj, he⟩ := List.getElem?_eq_some_iff.1 h
  rw [List.take_succ_eq_append_getElem hj, he, List.mem_append, not_or]
  exact ⟨hn, by simpa using hxy⟩
/-! ### slices.Clone -/
/-- What a call of Clone leaves: a row of its own, with the same elements. -/
def ClonedK {α : Type} (d : Kd α) (e : TypeId) (ok : Nat → Prop) (w : World) (l : List α) (en : Ending) (w' : World) : Prop :=
  ∃ A c, en = .returned (.slice A l.length c) ∧ l.length ≤ c ∧ d.R e w' w.heap.size (fun b => ok b ∨ w.heap.size ≤ b) (.slice A l.length c) l ∧ Chg nob w w'
theorem empty_ownR (w : World) (base : Nat) (e : TypeId) {α : Type} (d : Kd α) (hb : base ≤ w.heap.size) : d.R e (w.alloc (.cells #[] e)) base (fun k => k = w.heap.size) (.slice (some ⟨w.heap.size, 0, none⟩) 0 0) [] :=
  ⟨fun k hk => by cases hk; rfl, [], World.ownsRow_lit w #[] 0 hb (by simp [maxLen]) (by simp), Reps.nil⟩
theorem nil_nil {α : Type} {d : Kd α} {w : World} {ok : Nat → Prop} {n : Nat} {l : List α} (h : d.C w ok none l) (hn : l.length = n) : l = [] ∧ n = 0 := by
  have hln : l = [] := by
    apply Classical.byContradiction
    intro hne
    obtain ⟨_, inner, _, hc⟩ := h
    obtain ⟨ad, e, _⟩ := hc (List.length_pos_iff.2 hne)
    cases e
  subst hln
  exact ⟨rfl, hn.symm⟩
theorem cloned_nil {α : Type} (d : Kd α) (e : TypeId) (ok : Nat → Prop) (w : World) : ClonedK d e ok w [] (.returned (.slice none 0 0)) w :=
  ⟨none, 0, rfl, Nat.le_refl _, Kd.R_mono (Kd.R_nil _ _ _ _ (fun b => ok b ∨ w.heap.size ≤ b)) (fun b hb => hb), Chg.refl _ _⟩
theorem cloned_end {α : Type} {d : Kd α} {e : TypeId} {ok : Nat → Prop} {w w1 : World} {l : List α} {n c1 : Nat} {A1 : Option Addr} {o : Obj} (hn : l.length = n) (hR : d.R e w1 w.heap.size (fun k => k = w.heap.size ∨ (ok k ∧ k < w.heap.size) ∨ w.heap.size + 1 ≤ k) (.slice A1 n c1) l) (hC : Chg (fun k => some k = (Value.slice (some ⟨w.heap.size, 0, none⟩) 0 0).ownBlock) (w.alloc o) w1) :
    ClonedK d e ok w l (.returned (.slice A1 n c1)) w1 := by
  subst hn
  obtain ⟨A', c', hv, hl⟩ := Kd.R_slice' hR rfl
  cases hv
  refine ⟨A1, c1, rfl, hl, Kd.R_mono hR (fun b hb => ?_), ((Chg.refl nob w).alloc _).trans hC (fun b hb => .inr (by cases hb; exact Nat.le_refl _))⟩
  rcases hb with rfl | hb | hb
  · exact .inr (Nat.le_refl _)
  · exact .inl hb.1
  · exact .inr (by omega)
theorem l_cloneS_info : (Try.prog.info? 9).map (fun i => (i.zero, i.size, i.bytes)) = some (some (.string ByteArray.empty), (strK).sz, 16) := by kernel_rfl
theorem l_cloneS {w : World} {ok : Nat → Prop} {A : Option Addr} {n c : Nat} {l : List ByteArray} (h : (strK).C w ok A l) (hn : l.length = n) (hl : n * 16 ≤ 140737488355328) :
    Calls Try.prog 36 #[.slice A n c] w (ClonedK strK 9 ok w l) := by
  have hsm := h.small
  rw [hn] at hsm
  have HC := Lib.hid h
  have HN := Lib.hid hn
  have heq := fun (wx : World) => Lib.run_eql_slice_nil (P := Try.prog) wx 43 9 A n c 0 0 Try.underlying43
  go_enter Try.func36, Try.ntmps36
  cases A with
  | none =>
    obtain ⟨rfl, rfl⟩ := nil_nil h hn
    clear h hsm hn
    go_wp2
    go_ret
    exact cloned_nil _ _ _ _
  | some ad =>
    have HE := Lib.hid (empty_ownR w w.heap.size 9 strK (Nat.le_refl _))
    have HC1 := Lib.hid (Kd.C_new (Kd.C_bound HC.out) ((Chg.refl nob w).alloc (.cells #[] 9)))
    clear h hsm hn
    go_wp2_with (at_builtin; refine wp_append (d := strK) rfl _ _ 43 rfl 9 (.string ByteArray.empty) 16 Try.underlying43 l_cloneS_info rfl w.heap.size _ _ (.slice (some ⟨w.heap.size, 0, none⟩) 0 0) [] l (some ad) n c rfl rfl HN.out HE.out HC1.out ?_ ?_ ?_ (by simp) n ?_ ?_)
    · rintro k hk e
      cases e
      exact absurd hk.2 (Nat.lt_irrefl _)
    · have := HC.out.small; simpa [maxLen] using this
    · simpa [HN.out] using hl
    · simp
    intro A1 c1 w1 hR hC _
    have HCL := Lib.hid (cloned_end HN.out hR hC)
    clear hR hC HE
    go_wp2
    go_ret
    exact HCL.out
/-! ### slices.Index, slices.Contains, the reference's Has, Same -/
/-- What Index tells: whether a text stands in a list. -/
def IdxS (l : List ByteArray) (x : ByteArray) (i : Int) : Prop := (x ∈ l ∧ 0 ≤ i) ∨ (x ∉ l ∧ i = -1)
set_option maxHeartbeats 1000000 in
theorem r_sameS {w : World} {ok ok' : Nat → Prop} {A B : Option Addr} {xs ys : List ByteArray} {m n c d : Nat} (hm : xs.length = m) (hn : ys.length = n) (h : strK.C w ok A xs) (k : strK.C w ok' B ys) :
    Calls Try.prog 28 #[.slice A m c, .slice B n d] w fun e w' => e = .returned (.bool (decide (xs = ys))) ∧ Chg nob w w' := by
  have hs := h.small
  rw [hm] at hs
  have HM := Lib.hid hm
  have HN := Lib.hid hn
  by_cases hmn : m = n
  · subst hmn
    have HT0 : Hid (xs.take 0 = ys.take 0) := rfl
    clear hm hn
    go_enter Try.func28, Try.ntmps28
    go_wp2
    go_loopw [5] (fun i wr => ∃ j : Nat, j ≤ m ∧ i = .int .i64 j ∧ Hid (xs.take j = ys.take j) ∧ Chg nob w wr) (fun i _ => m - (intOf i).toNat)
    case atStart => exact ⟨0, Nat.zero_le _, rfl, HT0, Chg.refl _ _⟩
    case round =>
      obtain ⟨j, hj, rfl, HT, hc⟩ := hrel
      clear HT0
      by_cases hlt : j < m
      · obtain ⟨x, hx⟩ : ∃ x, xs[j]? = some x := ⟨_, List.getElem?_eq_getElem (by rw [HM.out]; exact hlt)⟩
        obtain ⟨y, hy⟩ : ∃ y, ys[j]? = some y := ⟨_, List.getElem?_eq_getElem (by rw [HN.out]; exact hlt)⟩
        obtain ⟨ad, rfl, _, ha⟩ := at_scalar (Kd.C_new h hc) hx
        obtain ⟨bd, rfl, _, hb⟩ := at_scalar (Kd.C_new k hc) hy
        have ha' : wr.cell? (ad.add j) = some (.string x) := ha
        have hb' : wr.cell? (bd.add j) = some (.string y) := hb
        have HX := Lib.hid hx
        have HY := Lib.hid hy
        clear ha hb hx hy h k
        have b1 : (0 : Int) ≤ (j : Int) := by omega
        have b2 : (j : Int) < (m : Int) := by omega
        by_cases hxy : x = y
        · subst hxy
          have t : (x.toList != x.toList) = false := by simp
          have t2 : (x.toList == x.toList) = true := by simp
          have HT2 : Hid (xs.take (j + 1) = ys.take (j + 1)) := by
            show _ = _
            rw [List.take_add_one, List.take_add_one, HT.out, HX.out, HY.out]
          go_wp2
          go_quiet (fail)
          go_wp2
          exact ⟨⟨j + 1, by omega, by go_num, HT2, hc.drewN _⟩, by simp [intOf]; omega⟩
        · have t : (x.toList != y.toList) = true := by rw [str_ne, decide_eq_false hxy]; rfl
          have t2 : (x.toList == y.toList) = false := by rw [str_eq]; exact decide_eq_false hxy
          have HD : Hid (decide (xs = ys) = false) := by
            refine decide_eq_false (fun e => hxy ?_)
            have := HX.out
            rw [e, HY.out] at this
            cases this
            rfl
          clear hxy
          go_wp2
          go_quiet (fail)
          go_wp2
          go_ret
          rw [HD.out]
          exact ⟨rfl, hc.drewN _⟩
      · obtain rfl : j = m := by omega
        have b1 : ¬ (j : Int) < (j : Int) := by omega
        have HD : Hid (decide (xs = ys) = true) := by
          have := HT.out
          rw [List.take_of_length_le (by rw [HM.out]; exact Nat.le_refl _), List.take_of_length_le (by rw [HN.out]; exact Nat.le_refl _)] at this
          exact decide_eq_true this
        clear h k
        go_wp2
        go_ret
        rw [HD.out]
        exact ⟨rfl, hc⟩
  · have HD : Hid (decide (xs = ys) = false) := decide_eq_false (fun e => hmn (by rw [← HM.out, ← HN.out, e]))
    have t : ((m : Int) != (n : Int)) = true := by simp; omega
    clear h k hm hn
    go_enter Try.func28, Try.ntmps28
    go_wp2
    go_ret
    rw [HD.out]
    exact ⟨rfl, Chg.refl _ _⟩
end Go.Proofs.Ytkclceghhebfaaa
