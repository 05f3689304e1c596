import Derived.Test.YthleagjnhpjhiaaFold01
import Derived.Test.YthleagjnhpjhiaaProg
import Derived.Lib.SliceRun
import Derived.Handy
import Derived.Laws.Strings
/- Lists of texts: what the library's and the reference's small functions on them tell; slices.Clone. -/
namespace Go.Proofs.Ythleagjnhpjhiaa
open Go.RowKit
set_option linter.unusedVariables false
set_option linter.unusedSimpArgs false
abbrev strK : Kd ByteArray := Kd.string
instance bytesDec : DecidableEq ByteArray := fun a b => if h : a.data = b.data then .isTrue (by cases a; cases b; simp_all) else .isFalse (fun e => h (by rw [e]))
def memDecL (x : ByteArray) : ∀ l : List ByteArray, Decidable (x ∈ l)
  | [] => .isFalse (by simp)
  | y :: l => if h : x = y then .isTrue (by rw [h]; exact List.mem_cons_self) else match memDecL x l with
    | .isTrue k => .isTrue (List.mem_cons_of_mem _ k)
    | .isFalse k => .isFalse (fun e => by rcases List.mem_cons.1 e with e | e; exact h e; exact k e)
instance memDec (x : ByteArray) (l : List ByteArray) : Decidable (x ∈ l) := memDecL x l
theorem str_eq (a b : ByteArray) : (a.toList == b.toList) = decide (a = b) := by
  rw [ByteArray.toList_eq, ByteArray.toList_eq]
  by_cases h : a = b
  · subst h; simp
  · rw [decide_eq_false h]
    simp only [beq_eq_false_iff_ne, ne_eq]
    intro e
    apply h
    cases a; cases b
    simp only [ByteArray.mk.injEq]
    exact Array.toList_inj.1 e
theorem str_ne (a b : ByteArray) : (a.toList != b.toList) = !decide (a = b) := by rw [bne, str_eq]
theorem sdrew (S : Nat → Prop) (w : World) (n : Nat) : Chg S w (w.drewN n) := ⟨rfl, rfl, rfl, Nat.le_refl _, fun _ _ _ => rfl⟩
theorem mem_take_next {α : Type} {l : List α} {x y : α} {k : Nat} (h : l[k]? = some y) (hn : x ∉ l.take k) (hxy : ¬ x = y) : x ∉ l.take (k + 1) := by
  obtain ⟨hj, he⟩ := List.getElem?_eq_some_iff.1 h
  rw [List.take_succ_eq_append_getElem hj, he, List.mem_append, not_or]
  exact ⟨hn, by simpa using hxy⟩
/-! ### slices.Clone -/
/-- What a call of Clone leaves: a row of its own, with the same elements. -/
def ClonedK {α : Type} (d : Kd α) (e : TypeId) (ok : Nat → Prop) (w : World) (l : List α) (en : Ending) (w' : World) : Prop :=
  ∃ A c, en = .returned (.slice A l.length c) ∧ l.length ≤ c ∧ d.R e w' w.heap.size (fun b => ok b ∨ w.heap.size ≤ b) (.slice A l.length c) l ∧ Chg nob w w'
theorem empty_ownR (w : World) (base : Nat) (e : TypeId) {α : Type} (d : Kd α) (hb : base ≤ w.heap.size) : d.R e (w.alloc (.cells #[] e)) base (fun k => k = w.heap.size) (.slice (some ⟨w.heap.size, 0, none⟩) 0 0) [] :=
  ⟨fun k hk => by cases hk; rfl, [], World.ownsRow_lit w #[] 0 hb (by simp [maxLen]) (by simp), Reps.nil⟩
theorem nil_nil {α : Type} {d : Kd α} {w : World} {ok : Nat → Prop} {n : Nat} {l : List α} (h : d.C w ok none l) (hn : l.length = n) : l = [] ∧ n = 0 := by
  have hln : l = [] := by
    apply Classical.byContradiction
    intro hne
    obtain ⟨_, inner, _, hc⟩ := h
    obtain ⟨ad, e, _⟩ := hc (List.length_pos_iff.2 hne)
    cases e
  subst hln
  exact ⟨rfl, hn.symm⟩
theorem cloned_nil {α : Type} (d : Kd α) (e : TypeId) (ok : Nat → Prop) (w : World) : ClonedK d e ok w [] (.returned (.slice none 0 0)) w :=
  ⟨none, 0, rfl, Nat.le_refl _, Kd.R_mono (Kd.R_nil _ _ _ _ (fun b => ok b ∨ w.heap.size ≤ b)) (fun b hb => hb), Chg.refl _ _⟩
theorem cloned_end {α : Type} {d : Kd α} {e : TypeId} {ok : Nat → Prop} {w w1 : World} {l : List α} {n c1 : Nat} {A1 : Option Addr} {o : Obj} (hn : l.length = n) (hR : d.R e w1 w.heap.size (fun k => k = w.heap.size ∨ (ok k ∧ k < w.heap.size) ∨ w.heap.size + 1 ≤ k) (.slice A1 n c1) l) (hC : Chg (fun k => some k = (Value.slice (some ⟨w.heap.size, 0, none⟩) 0 0).ownBlock) (w.alloc o) w1) :
    ClonedK d e ok w l (.returned (.slice A1 n c1)) w1 := by
  subst hn
  obtain ⟨A', c', hv, hl⟩ := Kd.R_slice' hR rfl
  cases hv
  refine ⟨A1, c1, rfl, hl, Kd.R_mono hR (fun b hb => ?_), ((Chg.refl nob w).alloc _).trans hC (fun b hb => .inr (by cases hb; exact Nat.le_refl _))⟩
  rcases hb with rfl | hb | hb
  · exact .inr (Nat.le_refl _)
  · exact .inl hb.1
  · exact .inr (by omega)
/-! ### slices.Index, slices.Contains, the reference's Has, Same -/
/-- What Index tells: whether a text stands in a list. -/
def IdxS (l : List ByteArray) (x : ByteArray) (i : Int) : Prop := (x ∈ l ∧ 0 ≤ i) ∨ (x ∉ l ∧ i = -1)
set_option maxHeartbeats 1000000 in
theorem r_sameS {w : World} {ok ok' : Nat → Prop} {A B : Option Addr} {xs ys : List ByteArray} {m n c d : Nat} (hm : xs.length = m) (hn : ys.length = n) (h : strK.C w ok A xs) (k : strK.C w ok' B ys) :
    Calls Try.prog 51 #[.slice A m c, .slice B n d] w fun e w' => e = .returned (.bool (decide (xs = ys))) ∧ Chg nob w w' := by
  have hs := h.small
  rw [hm] at hs
  have HM := Lib.hid hm
  have HN := Lib.hid hn
  by_cases hmn : m = n
  · subst hmn
    have HT0 : Hid (xs.take 0 = ys.take 0) := rfl
    clear hm hn
    go_enter Try.func51, Try.ntmps51
    go_wp2
    go_loopw [5] (fun i wr => ∃ j : Nat, j ≤ m ∧ i = .int .i64 j ∧ Hid (xs.take j = ys.take j) ∧ Chg nob w wr) (fun i _ => m - (intOf i).toNat)
    case atStart => exact ⟨0, Nat.zero_le _, rfl, HT0, Chg.refl _ _⟩
    case round =>
      obtain ⟨j, hj, rfl, HT, hc⟩ := hrel
      clear HT0
      by_cases hlt : j < m
      · obtain ⟨x, hx⟩ : ∃ x, xs[j]? = some x := ⟨_, List.getElem?_eq_getElem (by rw [HM.out]; exact hlt)⟩
        obtain ⟨y, hy⟩ : ∃ y, ys[j]? = some y := ⟨_, List.getElem?_eq_getElem (by rw [HN.out]; exact hlt)⟩
        obtain ⟨ad, rfl, _, ha⟩ := at_scalar (Kd.C_new h hc) hx
        obtain ⟨bd, rfl, _, hb⟩ := at_scalar (Kd.C_new k hc) hy
        have ha' : wr.cell? (ad.add j) = some (.string x) := ha
        have hb' : wr.cell? (bd.add j) = some (.string y) := hb
        have HX := Lib.hid hx
        have HY := Lib.hid hy
        clear ha hb hx hy h k
        have b1 : (0 : Int) ≤ (j : Int) := by omega
        have b2 : (j : Int) < (m : Int) := by omega
        by_cases hxy : x = y
        · subst hxy
          have t : (x.toList != x.toList) = false := by simp
          have t2 : (x.toList == x.toList) = true := by simp
          have HT2 : Hid (xs.take (j + 1) = ys.take (j + 1)) := by
            show _ = _
            rw [List.take_add_one, List.take_add_one, HT.out, HX.out, HY.out]
          go_wp2
          go_quiet (fail)
          go_wp2
          exact ⟨⟨j + 1, by omega, by go_num, HT2, hc.drewN _⟩, by simp [intOf]; omega⟩
        · have t : (x.toList != y.toList) = true := by rw [str_ne, decide_eq_false hxy]; rfl
          have t2 : (x.toList == y.toList) = false := by rw [str_eq]; exact decide_eq_false hxy
          have HD : Hid (decide (xs = ys) = false) := by
            refine decide_eq_false (fun e => hxy ?_)
            have := HX.out
            rw [e, HY.out] at this
            cases this
            rfl
          clear hxy
          go_wp2
          go_quiet (fail)
          go_wp2
          go_ret
          rw [HD.out]
          exact ⟨rfl, hc.drewN _⟩
      · obtain rfl : j = m := by omega
        have b1 : ¬ (j : Int) < (j : Int) := by omega
        have HD : Hid (decide (xs = ys) = true) := by
          have := HT.out
          rw [List.take_of_length_le (by rw [HM.out]; exact Nat.le_refl _), List.take_of_length_le (by rw [HN.out]; exact Nat.le_refl _)] at this
          exact decide_eq_true this
        clear h k
        go_wp2
        go_ret
        rw [HD.out]
        exact ⟨rfl, hc⟩
  · have HD : Hid (decide (xs = ys) = false) := decide_eq_false (fun e => hmn (by rw [← HM.out, ← HN.out, e]))
    have t : ((m : Int) != (n : Int)) = true := by simp; omega
    clear h k hm hn
    go_enter Try.func51, Try.ntmps51
    go_wp2
    go_ret
    rw [HD.out]
    exact ⟨rfl, Chg.refl _ _⟩
end Go.Proofs.Ythleagjnhpjhiaa

/- A row of the call's own: one cell of an element is written; kinds that say more or less. -/
namespace Go.Proofs.Ythleagjnhpjhiaa
open Go.RowKit
set_option linter.unusedVariables false
theorem Reps.setAt {α : Type} {R : α → List Value → Prop} {sz : Nat} {xs : List α} {cs : List Value} (h : Reps R sz xs cs) {j i : Nat} {x' : α} {u : Value} (hi : i < sz) (hx : R x' (((cs.drop (j * sz)).take sz).set i u)) : Reps R sz (xs.set j x') (cs.set (j * sz + i) u) := by
  refine ⟨by rw [List.length_set, List.length_set]; exact h.1, fun k x hk => ?_⟩
  rw [List.drop_set, List.getElem?_set] at *
  by_cases hjk : j = k
  · subst hjk
    rw [if_pos rfl] at hk
    split at hk
    · cases hk
      rw [if_neg (by omega), Nat.add_sub_cancel_left, List.take_set]
      exact hx
    · cases hk
  · rw [if_neg hjk] at hk
    have h2 := h.2 k x hk
    by_cases hlt : j * sz + i < k * sz
    · rw [if_pos hlt]
      exact h2
    · rw [if_neg hlt, List.take_set, List.set_eq_of_length_le]
      · exact h2
      · rw [List.length_take]
        have : (k + 1) * sz ≤ j * sz := by
          apply Nat.mul_le_mul_right
          apply Nat.lt_of_not_le
          intro hle
          have h3 : j < k := by omega
          have h4 := Nat.mul_le_mul_right sz (show j + 1 ≤ k from h3)
          rw [Nat.succ_mul] at h4
          omega
        rw [Nat.succ_mul] at this
        omega
/-- One cell of element j is written. -/
theorem Kd.R_setField {α : Type} {d : Kd α} {e base n cap g j i : Nat} {w : World} {ok : Nat → Prop} {l : List α} {x x' : α} {u : Value} (h : d.R e w base ok (.slice (some ⟨g, 0, none⟩) n cap) l) (hx : l[j]? = some x) (hi : i < d.sz)
    (hc : ∀ cs, d.K w (fun k => ok k ∧ k ≠ g) x cs → d.K w (fun k => ok k ∧ k ≠ g) x' (cs.set i u)) : d.R e (w.setCell ⟨g, j * d.sz + i, none⟩ u) base ok (.slice (some ⟨g, 0, none⟩) n cap) (l.set j x') := by
  obtain ⟨h0, inner, ho, hr⟩ := h
  have hn : l.length = n := by
    rcases ho.2 with ⟨e1, _⟩ | ⟨g', cap', cur, e1, _⟩
    · cases e1
    · injection e1 with _ e2 _
      exact e2.symm
  subst hn
  refine ⟨h0, inner.set (j * d.sz + i) u, ?_, ?_⟩
  · rw [List.length_set]
    exact (ho.stored _ _).1
  · have hmv : ∀ (y : α) (cs : List Value), d.K w (fun k => ok k ∧ some k ≠ (Value.slice (some ⟨g, 0, none⟩) l.length cap).ownBlock) y cs → d.K (w.setCell ⟨g, j * d.sz + i, none⟩ u) (fun k => ok k ∧ some k ≠ (Value.slice (some ⟨g, 0, none⟩) l.length cap).ownBlock) y cs :=
      fun y cs hy => d.move (fun k hk => Below.heap_setCell _ _ _ _ (fun e => hk.2 (by rw [show k = g from e]; rfl))) hy
    refine Reps.setAt (hr.imp hmv) hi (hmv _ _ ?_)
    have h1 := hc _ (d.mono (fun k hk => ⟨hk.1, fun e => hk.2 (by rw [e]; rfl)⟩) (hr.2 j x hx))
    exact d.mono (fun k hk => ⟨hk.1, fun e => hk.2 (by cases e; rfl)⟩) h1
/-! ### Kinds that say less -/
def Kd.Le {α : Type} (d d' : Kd α) : Prop := d'.sz = d.sz ∧ ∀ {w : World} {ok : Nat → Prop} {x : α} {cs : List Value}, d.K w ok x cs → d'.K w ok x cs
theorem Kd.Le.refl {α : Type} (d : Kd α) : d.Le d := ⟨rfl, fun h => h⟩
theorem Kd.Le.such {α : Type} {d d' : Kd α} {p : α → Prop} (h : d.Le d') : (Kd.such d p).Le d' := ⟨h.1, fun k => h.2 k.1⟩
theorem Kd.Le.suchs {α : Type} {d d' : Kd α} {p : α → Prop} (h : d.Le d') : (Kd.such d p).Le (Kd.such d' p) := ⟨h.1, fun k => ⟨h.2 k.1, k.2⟩⟩
theorem Kd.Le.pair {α β : Type} {d d' : Kd α} {e e' : Kd β} (h : d.Le d') (k : e.Le e') : (Kd.pair d e).Le (Kd.pair d' e') := ⟨by show d'.sz + e'.sz = d.sz + e.sz; rw [h.1, k.1], fun ⟨c0, c1, e, h0, h1⟩ => ⟨c0, c1, e, h.2 h0, k.2 h1⟩⟩
theorem Kd.Le.C {α : Type} {d d' : Kd α} (h : d.Le d') {w : World} {ok : Nat → Prop} {A : Option Addr} {l : List α} (hC : d.C w ok A l) : d'.C w ok A l := by
  obtain ⟨h1, inner, hr, hc⟩ := hC
  exact ⟨h1, inner, by rw [h.1]; exact hr.imp (fun x c hx => h.2 hx), hc⟩
theorem Kd.Le.slice {α : Type} {d d' : Kd α} (h : d.Le d') : (Kd.slice d).Le (Kd.slice d') := ⟨rfl, fun ⟨A, c, e, hl, hC⟩ => ⟨A, c, e, hl, h.C hC⟩⟩
end Go.Proofs.Ythleagjnhpjhiaa
