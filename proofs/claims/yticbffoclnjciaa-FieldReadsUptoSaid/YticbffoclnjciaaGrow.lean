/- A region of open order whose operations make new memory only: each operation is shown once, out of what is known of the slots that it looks at; the order does not matter. -/
import Derived.Test.YticbffoclnjciaaKit
import Derived.RegionTactic
namespace Go.Proofs.Yticbffoclnjciaa
open Go.RowKit
set_option linter.unusedVariables false

/-- Slot d is filled by the region. -/
def fills (ops : Array Oper) (d : Nat) : Bool := ops.any fun o => o.dst == some d
/-- Each operation waits for earlier ones alone, among them all whose slots it looks at; no slot is filled twice; each slot is there. -/
def growOk (n : Nat) (ops : Array Oper) : Bool :=
  (List.range ops.size).all fun i => match ops[i]? with
    | none => true
    | some o =>
      o.after.all (fun e => decide (e.on < i)) &&
      (o.looksAt ops).all (fun d => (List.range ops.size).all fun j => match ops[j]? with
        | none => true
        | some oj => oj.dst != some d || o.after.any (fun e => e.on == j && Region.binds .any e)) &&
      (List.range ops.size).all (fun j => j == i || match ops[j]? with
        | some oj => o.dst.isNone || oj.dst != o.dst
        | none => true) &&
      (match o.dst with
        | some d => decide (d < n)
        | none => true)
section
variable {P : Program} {ops : Array Oper} {Q : Exit → Act → World → Prop}
/-- One operation's step. -/
def GrowStep (P : Program) (ops : Array Oper) (Q : Exit → Act → World → Prop) (S : Nat → Value → World → Prop) (a0 : Act) (w0 : World) (o : Oper) : Prop :=
  ∀ a w, Chg nob w0 w → (∀ d, d ∈ o.looksAt ops → (fills ops d = true → S d (a.tmps.getD d undef) w) ∧ (fills ops d = false → a.tmps.getD d undef = a0.tmps.getD d undef)) →
    (∀ j oj d, o.guard.map (·.1) = some j → ops[j]? = some oj → oj.dst = some d → a.tmps[d]? = some (a.tmps.getD d undef)) →
    if Region.wanted o (yielded ops a.tmps) then o.wp P a w (fun a' w' => ∃ v, a' = a.put o.dst v ∧ Chg nob w w' ∧ ∀ d, o.dst = some d → S d v w') Q else ∀ d, o.dst = some d → S d undef w
structure GrowInv (ops : Array Oper) (S : Nat → Value → World → Prop) (a0 : Act) (w0 : World) (listed : Array Bool) (a : Act) (w : World) : Prop where
  size : listed.size = ops.size
  chg : Chg nob w0 w
  defers : a.defers = a0.defers
  tmps : a.tmps.size = a0.tmps.size
  out : ∀ d, fills ops d = false → a.tmps.getD d undef = a0.tmps.getD d undef
  have_ : ∀ (i : Nat) (o : Oper) (d : Nat), listed[i]? = some true → ops[i]? = some o → o.dst = some d → S d (a.tmps.getD d undef) w
theorem grow_ok_row {n : Nat} (h : growOk n ops = true) {i : Nat} {o : Oper} (ho : ops[i]? = some o) :
    (∀ e ∈ o.after, e.on < i) ∧ (∀ d ∈ o.looksAt ops, ∀ j oj, ops[j]? = some oj → oj.dst = some d → ∃ e ∈ o.after, e.on = j ∧ Region.binds .any e = true) ∧ (∀ j oj d, ops[j]? = some oj → o.dst = some d → oj.dst = some d → j = i) ∧ (∀ d, o.dst = some d → d < n) := by
  have hi : i < ops.size := (Array.getElem?_eq_some_iff.1 ho).1
  have h1 := List.all_eq_true.1 h i (List.mem_range.2 hi)
  rw [ho] at h1
  simp only [Bool.and_eq_true] at h1
  obtain ⟨⟨⟨h2, h3⟩, h4⟩, h5⟩ := h1
  refine ⟨fun e he => ?_, fun d hd j oj hj hdj => ?_, fun j oj d hj hd hdj => ?_, fun d hd => ?_⟩
  · obtain ⟨k, hk, rfl⟩ := Array.mem_iff_getElem.1 he
    have := Array.all_eq_true.1 h2 k hk
    simpa using this
  · have h6 := List.all_eq_true.1 h3 d hd
    have h7 := List.all_eq_true.1 h6 j (List.mem_range.2 (Array.getElem?_eq_some_iff.1 hj).1)
    simp only [hj, hdj, bne_self_eq_false, Bool.false_or] at h7
    obtain ⟨k, hk, h8⟩ := Array.any_eq_true.1 h7
    simp only [Bool.and_eq_true, beq_iff_eq] at h8
    exact ⟨_, Array.getElem_mem hk, h8.1, h8.2⟩
  · have h6 := List.all_eq_true.1 h4 j (List.mem_range.2 (Array.getElem?_eq_some_iff.1 hj).1)
    simp only [hj, hd, hdj] at h6
    simpa using h6
  · rw [hd] at h5
    simpa using h5
theorem mem_ready {md : Region.Mode} {listed : Array Bool} {i : Nat} (h : i ∈ Region.ready md ops listed) :
    i < ops.size ∧ listed.getD i true = false ∧ ∃ o, ops[i]? = some o ∧ ∀ e ∈ o.after, Region.binds md e = true → listed.getD e.on false = true := by
  unfold Region.ready at h
  rw [List.mem_filter, List.mem_range] at h
  obtain ⟨h1, h2⟩ := h
  rw [Bool.and_eq_true] at h2
  obtain ⟨h3, h4⟩ := h2
  obtain ⟨o, ho⟩ : ∃ o, ops[i]? = some o := ⟨_, Array.getElem?_eq_getElem h1⟩
  rw [ho] at h4
  refine ⟨h1, by simpa using h3, o, ho, fun e he hb => ?_⟩
  obtain ⟨k, hk, rfl⟩ := Array.mem_iff_getElem.1 he
  have h5 : (o.after.all fun e => !Region.binds md e || listed.getD e.on false) = true := h4
  have := Array.all_eq_true.1 h5 k hk
  simpa [hb] using this
theorem ready_nil {n : Nat} {listed : Array Bool} (hok : growOk n ops = true) (hs : listed.size = ops.size) (h : Region.ready .any ops listed = []) : ∀ i, i < ops.size → listed[i]? = some true := by
  intro i
  induction i using Nat.strongRecOn with
  | ind i ih =>
    intro hi
    obtain ⟨o, ho⟩ : ∃ o, ops[i]? = some o := ⟨_, Array.getElem?_eq_getElem hi⟩
    obtain ⟨he, _⟩ := grow_ok_row hok ho
    have hn : i ∉ Region.ready .any ops listed := by rw [h]; simp
    unfold Region.ready at hn
    rw [List.mem_filter, List.mem_range] at hn
    have hl : i < listed.size := by omega
    cases hv : listed[i] with
    | true => rw [Array.getElem?_eq_getElem hl, hv]
    | false =>
      exfalso
      refine hn ⟨hi, ?_⟩
      rw [ho]
      simp only [Array.getD_eq_getD_getElem?, Array.getElem?_eq_getElem hl, hv, Option.getD_some, Bool.not_false, Bool.true_and, Option.map_some]
      refine Array.all_eq_true.2 (fun k hk => ?_)
      have h1 := he _ (Array.getElem_mem hk)
      have h2 := ih _ h1 (by omega)
      rw [h2]
      simp
theorem Oper.wp_mono' {o : Oper} {a : Act} {w : World} {K K' : Act → World → Prop} (h : ∀ a w, K a w → K' a w) (hh : o.wp P a w K Q) : o.wp P a w K' Q := Oper.wp_mono h hh
theorem grow_any {n : Nat} {S : Nat → Value → World → Prop} {a0 : Act} {w0 : World} (hok : growOk n ops = true) (hn : a0.tmps.size = n) (hS : ∀ d v w w', S d v w → Chg nob w w' → S d v w')
    (hstep : ∀ (i : Nat) (o : Oper), ops[i]? = some o → GrowStep P ops Q S a0 w0 o)
    (hend : ∀ a w, (∀ i, i < ops.size → True) → Chg nob w0 w → a.defers = a0.defers → a.tmps.size = a0.tmps.size → (∀ d, fills ops d = false → a.tmps.getD d undef = a0.tmps.getD d undef) → (∀ d, fills ops d = true → S d (a.tmps.getD d undef) w) → Q .normal a w) :
    ∀ (fuel : Nat) (listed : Array Bool) (a : Act) (w : World), GrowInv ops S a0 w0 listed a w → ((List.range ops.size).filter fun i => !listed.getD i true).length ≤ fuel → wpAny P .any ops Q fuel listed a w := by
  have fin : ∀ (listed : Array Bool) (a : Act) (w : World), GrowInv ops S a0 w0 listed a w → (∀ i, i < ops.size → listed[i]? = some true) → Q .normal a w := by
    intro listed a w hI hall
    refine hend a w (fun _ _ => trivial) hI.chg hI.defers hI.tmps hI.out (fun d hd => ?_)
    obtain ⟨i, hi, h1⟩ := Array.any_eq_true.1 hd
    exact hI.have_ i _ d (hall i hi) (Array.getElem?_eq_getElem hi) (by simpa using h1)
  intro fuel
  induction fuel with
  | zero =>
    intro listed a w hI hf
    have hnone : ∀ i, i < ops.size → listed[i]? = some true := by
      intro i hi
      have hl : i < listed.size := by rw [hI.size]; exact hi
      have h1 : i ∉ (List.range ops.size).filter fun i => !listed.getD i true := by
        rw [List.eq_nil_of_length_eq_zero (Nat.le_zero.1 hf)]; simp
      rw [List.mem_filter, List.mem_range] at h1
      have h2 : listed.getD i true = true := by
        cases h : listed.getD i true with
        | true => rfl
        | false => exact absurd ⟨hi, by rw [h]; rfl⟩ h1
      rw [Array.getD_eq_getD_getElem?, Array.getElem?_eq_getElem hl] at h2
      rw [Array.getElem?_eq_getElem hl]
      simpa using h2
    refine ⟨?_, fin listed a w hI hnone⟩
    rw [List.eq_nil_iff_forall_not_mem]
    intro i hi
    obtain ⟨h1, h2, _⟩ := mem_ready hi
    rw [Array.getD_eq_getD_getElem?, hnone i h1] at h2
    simp at h2
  | succ fuel ih =>
    intro listed a w hI hf
    refine ⟨fun hr => fin listed a w hI (ready_nil hok hI.size hr), fun i hi => ?_⟩
    obtain ⟨h1, h2, o, ho, h3⟩ := mem_ready hi
    obtain ⟨r1, r2, r3, r4⟩ := grow_ok_row hok ho
    have hl : i < listed.size := by rw [hI.size]; exact h1
    have hfalse : listed[i]? = some false := by
      rw [Array.getD_eq_getD_getElem?, Array.getElem?_eq_getElem hl] at h2
      rw [Array.getElem?_eq_getElem hl]
      simpa using h2
    have look : ∀ d, d ∈ o.looksAt ops → (fills ops d = true → S d (a.tmps.getD d undef) w) ∧ (fills ops d = false → a.tmps.getD d undef = a0.tmps.getD d undef) := by
      intro d hd
      refine ⟨fun hf => ?_, fun hf => hI.out d hf⟩
      obtain ⟨j, hj, h4⟩ := Array.any_eq_true.1 hf
      have h5 : ops[j].dst = some d := by simpa using h4
      obtain ⟨e, he, he2, he3⟩ := r2 d hd j _ (Array.getElem?_eq_getElem hj) h5
      have h6 := h3 e he he3
      rw [he2] at h6
      have hjl : j < listed.size := by rw [hI.size]; exact hj
      refine hI.have_ j _ d ?_ (Array.getElem?_eq_getElem hj) h5
      rw [Array.getD_eq_getD_getElem?, Array.getElem?_eq_getElem hjl] at h6
      rw [Array.getElem?_eq_getElem hjl]
      simpa using h6
    have hg : ∀ j oj d, o.guard.map (·.1) = some j → ops[j]? = some oj → oj.dst = some d → a.tmps[d]? = some (a.tmps.getD d undef) := by
      intro j oj d _ hj hd
      have hdn := (grow_ok_row hok hj).2.2.2 d hd
      have hlt : d < a.tmps.size := by rw [hI.tmps, hn]; exact hdn
      rw [Array.getD_eq_getD_getElem?, Array.getElem?_eq_getElem hlt]
      rfl
    have hst := hstep i o ho a w hI.chg look hg
    have next : ∀ (v : Value) (w' : World), Chg nob w w' → (∀ d, o.dst = some d → S d v w') → wpAny P .any ops Q fuel (listed.setIfInBounds i true) (a.put o.dst v) w' := by
      intro v w' hc hv
      refine ih _ _ _ ⟨by simp [hI.size], hI.chg.thenNew hc, ?_, ?_, ?_, ?_⟩ ?_
      · cases o.dst <;> exact hI.defers
      · cases o.dst <;> simp [Act.put, hI.tmps]
      · intro d hd
        rw [← hI.out d hd]
        cases hdst : o.dst with
        | none => rfl
        | some d' =>
          have hne : d' ≠ d := by
            rintro rfl
            have : fills ops d' = true := Array.any_eq_true.2 ⟨i, h1, by rw [Array.getElem?_eq_getElem h1] at ho; cases ho; simp [hdst]⟩
            rw [hd] at this
            cases this
          simp [Act.put, Array.getD_eq_getD_getElem?, Array.getElem?_setIfInBounds_ne hne]
      · intro j oj d hj hoj hdj
        by_cases hji : j = i
        · subst hji
          rw [ho] at hoj
          cases hoj
          have hdn : d < a.tmps.size := by rw [hI.tmps, hn]; exact r4 d hdj
          have e : (a.put o.dst v).tmps.getD d undef = v := by
            rw [hdj]
            simp [Act.put, Array.getD_eq_getD_getElem?, Array.getElem?_setIfInBounds_self_of_lt hdn]
          rw [e]
          exact hv d hdj
        · rw [Array.getElem?_setIfInBounds_ne (Ne.symm hji)] at hj
          have h7 := hI.have_ j oj d hj hoj hdj
          have e : (a.put o.dst v).tmps.getD d undef = a.tmps.getD d undef := by
            cases hdst : o.dst with
            | none => rfl
            | some d' =>
              have hne : d' ≠ d := by
                rintro rfl
                exact hji (r3 j oj d' hoj hdst hdj)
              simp [Act.put, Array.getD_eq_getD_getElem?, Array.getElem?_setIfInBounds_ne hne]
          rw [e]
          exact hS d _ w w' h7 hc
      · have hm : i ∈ (List.range ops.size).filter fun i => !listed.getD i true := by
          rw [List.mem_filter, List.mem_range]
          exact ⟨h1, by rw [h2]; rfl⟩
        have hlt : ((List.range ops.size).filter fun j => !(listed.setIfInBounds i true).getD j true).length < ((List.range ops.size).filter fun i => !listed.getD i true).length := by
          rw [← List.countP_eq_length_filter, ← List.countP_eq_length_filter]
          have key : ∀ (l : List Nat), l.countP (fun j => !(listed.setIfInBounds i true).getD j true) + l.countP (fun j => (j == i) && !listed.getD j true) = l.countP (fun j => !listed.getD j true) := by
            intro l
            induction l with
            | nil => rfl
            | cons x l ihl =>
              rw [List.countP_cons, List.countP_cons, List.countP_cons, ← ihl]
              by_cases hx : x = i
              · subst hx
                have e1 : (listed.setIfInBounds x true).getD x true = true := by
                  rw [Array.getD_eq_getD_getElem?, Array.getElem?_setIfInBounds_self_of_lt hl]; rfl
                rw [e1, h2]
                simp
                omega
              · have e1 : (listed.setIfInBounds i true).getD x true = listed.getD x true := by
                  rw [Array.getD_eq_getD_getElem?, Array.getD_eq_getD_getElem?, Array.getElem?_setIfInBounds_ne (Ne.symm hx)]
                rw [e1]
                simp [hx]
                omega
          have h8 := key (List.range ops.size)
          have h9 : 0 < (List.range ops.size).countP (fun j => (j == i) && !listed.getD j true) := List.countP_pos_iff.2 ⟨i, List.mem_range.2 h1, by rw [h2]; simp⟩
          omega
        omega
    unfold wpOp
    rw [ho]
    simp only
    by_cases hw : Region.wanted o (yielded ops a.tmps) = true
    · rw [if_pos hw] at hst ⊢
      refine .inl (Oper.wp_mono ?_ hst)
      rintro a' w' ⟨v, rfl, hc, hv⟩
      exact next v w' hc hv
    · rw [if_neg hw] at hst ⊢
      exact next undef w (Chg.refl _ _) hst
end
/-- Slots filled. -/
def fillT (t : Array Value) (u : Nat → Value) : List Nat → Array Value
  | [] => t
  | d :: l => fillT (t.setIfInBounds d (u d)) u l
theorem fillT_size (u : Nat → Value) : ∀ (l : List Nat) (t : Array Value), (fillT t u l).size = t.size
  | [], t => rfl
  | d :: l, t => by rw [fillT, fillT_size u l]; simp
theorem fillT_out (u : Nat → Value) : ∀ (l : List Nat) (t : Array Value) (d : Nat), d ∉ l → (fillT t u l)[d]? = t[d]?
  | [], t, d, _ => rfl
  | x :: l, t, d, h => by
    rw [fillT, fillT_out u l _ d (fun hm => h (List.mem_cons_of_mem _ hm)), Array.getElem?_setIfInBounds_ne (fun e => h (by rw [e]; exact List.mem_cons_self))]
theorem fillT_in (u : Nat → Value) : ∀ (l : List Nat) (t : Array Value) (d : Nat), d ∈ l → d < t.size → (fillT t u l)[d]? = some (u d)
  | [], t, d, h, _ => by cases h
  | x :: l, t, d, h, hs => by
    rw [fillT]
    by_cases hm : d ∈ l
    · exact fillT_in u l _ d hm (by simpa using hs)
    · have hx : d = x := by rcases List.mem_cons.1 h with h | h; exact h; exact absurd h hm
      subst hx
      rw [fillT_out u l _ d hm, Array.getElem?_setIfInBounds_self_of_lt hs]
/-- The region, whatever its order. dl: the slots that it fills. -/
theorem wp_region_grow {P : Program} {ops : Array Oper} {Q : Exit → Act → World → Prop} {id : Nat} (S : Nat → Value → World → Prop) (dl : List Nat) {a0 : Act} {w0 : World} (hm : P.follows .mixedOrders = true)
    (hok : growOk a0.tmps.size ops = true) (hdl : ((List.range a0.tmps.size).all (fun d => fills ops d == dl.contains d) && dl.all fun d => decide (d < a0.tmps.size)) = true) (hS : ∀ d v w w', S d v w → Chg nob w w' → S d v w')
    (hstep : ∀ (i : Nat) (o : Oper), ops[i]? = some o → GrowStep P ops Q S a0 w0 o)
    (hend : ∀ (u : Nat → Value) (w : World), Chg nob w0 w → (∀ d, d ∈ dl → S d (u d) w) → Q .normal ⟨fillT a0.tmps u dl, a0.defers⟩ w) : (Code.region id ops true).wp P Q a0 w0 := by
  refine wp_region_any hm ?_
  refine grow_any (n := a0.tmps.size) (S := S) (a0 := a0) (w0 := w0) hok rfl hS hstep ?_ _ _ _ _ ⟨by simp, ⟨rfl, rfl, rfl, Nat.le_refl _, fun _ _ _ => rfl⟩, rfl, rfl, fun _ _ => rfl, ?_⟩ ?_
  · intro a w _ hc hd hs ho hi
    rw [Bool.and_eq_true] at hdl
    have hdl' : ∀ d, d < a0.tmps.size → (fills ops d = dl.contains d) := by
      intro d hd
      have := List.all_eq_true.1 hdl.1 d (List.mem_range.2 hd)
      simpa using this
    have hlt : ∀ d, fills ops d = true → d < a0.tmps.size := by
      intro d hf
      obtain ⟨j, hj, h4⟩ := Array.any_eq_true.1 hf
      exact (grow_ok_row hok (Array.getElem?_eq_getElem hj)).2.2.2 d (by simpa using h4)
    have e : a = ⟨fillT a0.tmps (fun d => a.tmps.getD d undef) dl, a0.defers⟩ := by
      cases a with
      | mk t df =>
        simp only at hd hs ho hi ⊢
        subst hd
        congr 1
        apply Array.ext_getElem?
        intro d
        by_cases hdn : d < a0.tmps.size
        · cases hf : fills ops d with
          | true =>
            have hmem : d ∈ dl := by have := hdl' d hdn; rw [hf] at this; simpa using this.symm
            rw [fillT_in _ _ _ _ hmem hdn, Array.getD_eq_getD_getElem?, Array.getElem?_eq_getElem (by omega)]
            rfl
          | false =>
            have hmem : d ∉ dl := by have := hdl' d hdn; rw [hf] at this; simpa using this.symm
            rw [fillT_out _ _ _ _ hmem]
            have := ho d hf
            rw [Array.getD_eq_getD_getElem?, Array.getD_eq_getD_getElem?, Array.getElem?_eq_getElem (by omega), Array.getElem?_eq_getElem hdn] at this
            rw [Array.getElem?_eq_getElem (by omega), Array.getElem?_eq_getElem hdn]
            simpa using this
        · rw [Array.getElem?_eq_none (by omega), Array.getElem?_eq_none (by rw [fillT_size]; omega)]
    rw [e]
    refine hend _ w hc (fun d hm => ?_)
    cases hf : fills ops d with
    | true => exact hi d hf
    | false =>
      by_cases hdn : d < a0.tmps.size
      · have := hdl' d hdn
        rw [hf] at this
        have h2 : dl.contains d = true := by simpa using hm
        rw [h2] at this
        cases this
      · exact absurd (of_decide_eq_true (List.all_eq_true.1 hdl.2 d hm)) hdn
  · intro i o d hl
    rw [Array.getElem?_replicate] at hl
    split at hl <;> cases hl
  · refine Nat.le_trans (List.length_filter_le _ _) (by simp)
end Go.Proofs.Yticbffoclnjciaa
