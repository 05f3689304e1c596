/- A region of open order that makes new memory only, by a table: what each slot holds once it is filled. -/
import Derived.Test.YticbffoclnjciaaGrow
import Derived.Laws.IdiomStrings
import Derived.BigRegion
import Derived.Laws.Concat
namespace Go.Proofs.Yticbffoclnjciaa
open Go.RowKit
set_option linter.unusedVariables false
/-- What a slot holds. -/
inductive Spec
  | val (x : Value)
  | such (p : Value → World → Prop) (h : ∀ v w w', p v w → Chg nob w w' → p v w')
def Spec.is : Spec → Value → World → Prop
  | .val x, v, _ => v = x
  | .such p _, v, w => p v w
theorem Spec.is_step : ∀ (s : Spec) (v : Value) (w w' : World), s.is v w → Chg nob w w' → s.is v w'
  | .val _, _, _, _, h, _ => h
  | .such _ k, v, w, w', h, hc => k v w w' h hc
def wantB (tab : Nat → Spec) (ops : Array Oper) (o : Oper) : Option Bool :=
  match o.guard with
  | none => some true
  | some (j, want) =>
    match (ops[j]?).bind (·.dst) with
    | none => none
    | some d =>
      match tab d with
      | .val (.bool b) => some (b == want)
      | _ => none
section
variable {P : Program} {ops : Array Oper} {Q : Exit → Act → World → Prop} {tab : Nat → Spec} {w0 : World}
/-- The slots that an operation looks at are as the table says. -/
def Looks (ops : Array Oper) (tab : Nat → Spec) (o : Oper) (a : Act) (w : World) : Prop := ∀ d, (o.looksAt ops).contains d = true → (tab d).is (a.tmps.getD d undef) w
def TabStep (P : Program) (ops : Array Oper) (Q : Exit → Act → World → Prop) (tab : Nat → Spec) (w0 : World) (o : Oper) : Prop :=
  ∃ b, wantB tab ops o = some b ∧ match b with
  | true => ∀ a w, Chg nob w0 w → Looks ops tab o a w → o.wp P a w (fun a' w' => ∃ v, a' = a.put o.dst v ∧ Chg nob w w' ∧ ∀ d, o.dst = some d → (tab d).is v w') Q
  | false => ∀ d, o.dst = some d → tab d = .val undef
def TabAll (P : Program) (ops : Array Oper) (Q : Exit → Act → World → Prop) (tab : Nat → Spec) (w0 : World) : List Oper → Prop
  | [] => True
  | o :: l => TabStep P ops Q tab w0 o ∧ TabAll P ops Q tab w0 l
theorem TabAll.get : ∀ {l : List Oper}, TabAll P ops Q tab w0 l → ∀ o ∈ l, TabStep P ops Q tab w0 o
  | [], _, _, h => by cases h
  | x :: l, h, o, ho => by
    rcases List.mem_cons.1 ho with rfl | ho
    · exact h.1
    · exact TabAll.get h.2 o ho
def AllOf (p : Nat → Prop) : List Nat → Prop
  | [] => True
  | d :: l => p d ∧ AllOf p l
theorem AllOf.get {p : Nat → Prop} : ∀ {l : List Nat}, AllOf p l → ∀ d ∈ l, p d
  | [], _, _, h => by cases h
  | x :: l, h, d, hd => by
    rcases List.mem_cons.1 hd with rfl | hd
    · exact h.1
    · exact AllOf.get h.2 d hd
theorem AllOf.of {p : Nat → Prop} : ∀ {l : List Nat}, (∀ d ∈ l, p d) → AllOf p l
  | [], _ => trivial
  | x :: l, h => ⟨h x List.mem_cons_self, AllOf.of fun d hd => h d (List.mem_cons_of_mem _ hd)⟩
theorem TabStep.val {o : Oper} {d : Nat} {x : Value} (hw : wantB tab ops o = some true) (hd : o.dst = some d) (hx : tab d = .val x) (hr : ∀ a w, Chg nob w0 w → Looks ops tab o a w → (execOp a.eval o).run P w = .ok (.value x) w) : TabStep P ops Q tab w0 o := by
  refine ⟨true, hw, fun a w hc hl => ?_⟩
  unfold Oper.wp
  rw [hr a w hc hl]
  refine ⟨x, rfl, Chg.refl _ _, fun e he => ?_⟩
  rw [hd] at he
  cases he
  rw [hx]
  rfl
theorem TabStep.move {o : Oper} {d s : Nat} {x : Value} (hw : wantB tab ops o = some true) (hd : o.dst = some d) (ho : o.op = .move (.tmp s)) (hx : tab d = .val x) (hs : tab s = .val x) (hl : (o.looksAt ops).contains s = true) : TabStep P ops Q tab w0 o := by
  refine TabStep.val hw hd hx (fun a w hc hk => ?_)
  rw [BigFrame.run_move _ ho]
  have := hk s hl
  rw [hs] at this
  have e : a.eval (.tmp s) = x := this
  rw [e]
theorem TabStep.assign {o : Oper} {d s : Nat} {x : Value} (hw : wantB tab ops o = some true) (hd : o.dst = some d) (ho : o.op = .assign (.tmp s)) (hx : tab d = .val x) (hs : tab s = .val x) (hl : (o.looksAt ops).contains s = true) : TabStep P ops Q tab w0 o := by
  refine TabStep.val hw hd hx (fun a w hc hk => ?_)
  rw [BigFrame.run_assign _ ho]
  have := hk s hl
  rw [hs] at this
  have e : a.eval (.tmp s) = x := this
  rw [e]
theorem TabStep.skip {o : Oper} {d : Nat} (hw : wantB tab ops o = some false) (hd : o.dst = some d) (hx : tab d = .val undef) : TabStep P ops Q tab w0 o := by
  refine ⟨false, hw, fun e he => ?_⟩
  rw [hd] at he
  cases he
  exact hx
theorem TabStep.call {o : Oper} {d : Nat} (hw : wantB tab ops o = some true) (hd : o.dst = some d)
    (hr : ∀ a w, Chg nob w0 w → Looks ops tab o a w → ∃ f args, (execOp a.eval o).run P w = .ok (.enter f args) w ∧ Calls P f args w (fun e w' => ∃ v, e = .returned v ∧ Chg nob w w' ∧ (tab d).is v w')) : TabStep P ops Q tab w0 o := by
  refine ⟨true, hw, fun a w hc hl => ?_⟩
  obtain ⟨f, args, h1, h2⟩ := hr a w hc hl
  unfold Oper.wp
  rw [h1]
  refine Calls.mono h2 ?_
  rintro e w' ⟨v, rfl, hc', hv⟩
  refine ⟨v, rfl, hc', fun e he => ?_⟩
  rw [hd] at he
  cases he
  exact hv
/-- The region. dl: the slots that it fills; ol: the others that it looks at. -/
theorem wp_region_tab {id : Nat} (tab : Nat → Spec) (dl ol : List Nat) {a0 : Act} (hm : P.follows .mixedOrders = true)
    (hok : growOk a0.tmps.size ops = true) (hdl : ((List.range a0.tmps.size).all (fun d => fills ops d == dl.contains d) && dl.all fun d => decide (d < a0.tmps.size)) = true)
    (hol : (ops.toList.all fun o => (o.looksAt ops).all fun d => fills ops d || ol.contains d) = true)
    (h0 : AllOf (fun d => (tab d).is (a0.tmps.getD d undef) w0) ol)
    (hall : TabAll P ops Q tab w0 ops.toList)
    (hend : ∀ (u : Nat → Value) (w : World), Chg nob w0 w → (∀ d, dl.contains d = true → (tab d).is (u d) w) → Q .normal ⟨fillT a0.tmps u dl, a0.defers⟩ w) : (Code.region id ops true).wp P Q a0 w0 := by
  refine wp_region_grow (fun d v w => (tab d).is v w) dl hm hok hdl (fun d v w w' h hc => (tab d).is_step v w w' h hc) ?_ (fun u w hc h => hend u w hc (fun d hd => h d (by simpa using hd)))
  intro i o ho a w hc hl hg
  have hmem : o ∈ ops.toList := by
    obtain ⟨hi, rfl⟩ := Array.getElem?_eq_some_iff.1 ho
    exact Array.mem_toList_iff.2 (Array.getElem_mem hi)
  have look : Looks ops tab o a w := by
    intro d hd
    have hd' : d ∈ o.looksAt ops := by simpa using hd
    obtain ⟨h1, h2⟩ := hl d hd'
    cases hf : fills ops d with
    | true => exact h1 hf
    | false =>
      rw [h2 hf]
      have h3 := List.all_eq_true.1 (List.all_eq_true.1 hol o hmem) d hd'
      rw [hf, Bool.false_or] at h3
      exact Spec.is_step _ _ _ _ (h0.get d (by simpa using h3)) hc
  obtain ⟨b, hw, hs⟩ := hall.get o hmem
  have hwant : Region.wanted o (yielded ops a.tmps) = b := by
    unfold wantB at hw
    unfold Region.wanted
    cases hgd : o.guard with
    | none => rw [hgd] at hw; simpa using hw
    | some g =>
      obtain ⟨j, want⟩ := g
      rw [hgd] at hw
      simp only at hw ⊢
      cases hj : (ops[j]?).bind (·.dst) with
      | none => rw [hj] at hw; cases hw
      | some d =>
        rw [hj] at hw
        simp only at hw
        obtain ⟨oj, hoj, hdj⟩ := Option.bind_eq_some_iff.1 hj
        have h4 := hg j oj d (by rw [hgd]; rfl) hoj hdj
        have h5 := look d (by
          have : d ∈ o.looksAt ops := by
            unfold Oper.looksAt
            rw [hgd]
            simp [hj]
          simpa using this)
        split at hw
        · next b' e =>
          rw [e] at h5
          have h6 : a.tmps.getD d undef = .bool b' := h5
          unfold yielded
          rw [hj]
          simp only [Option.bind_some]
          rw [h4, h6]
          cases hw
          cases b' <;> cases want <;> rfl
        · cases hw
  rw [hwant]
  cases b with
  | true =>
    rw [if_pos rfl]
    exact hs a w hc look
  | false =>
    rw [if_neg (by simp)]
    intro d hd
    rw [show tab d = .val undef from hs d hd]
    rfl
end
/-- A list of bytes as a string. -/
def strOf (l : List UInt8) : ByteArray := ⟨l.toArray⟩
theorem strOf_append (a b : List UInt8) : strOf (a ++ b) = strOf a ++ strOf b := by
  apply ByteArray.ext
  show (a ++ b).toArray = _
  rw [ByteArray.data_append]
  simp [strOf]
theorem strOf_list (l : List UInt8) : (strOf l).toList = l := by rw [ByteArray.toList_eq]; rfl
theorem strOf_size (l : List UInt8) : (strOf l).size = l.length := rfl
theorem run_conv {P : Program} {w : World} {ok : Nat → Prop} {A : Option Addr} {m c : Nat} {bs : List UInt8} {src dst e : TypeId} (h : Kd.byte.C w ok A bs) (hm : bs.length = m)
    (hs : P.underlying src = some (.slice e)) (he : P.underlying e = some (.int .u8)) (hd : P.underlying dst = some .string) :
    (convert src dst (.slice A m c)).run P w = .ok (.string (strOf bs)) w := by
  subst hm
  cases A with
  | none =>
    cases bs with
    | nil => rw [run_convert_bytes_string w src dst e none _ c hs he hd]; rfl
    | cons x l =>
      obtain ⟨ad, e, _⟩ := at_scalar h (j := 0) (x := x) rfl
      cases e
  | some a =>
    refine run_convert_bytes_back w src dst e a c bs hs he hd (fun j hj => ?_)
    obtain ⟨ad, e, _, hc⟩ := at_scalar h (List.getElem?_eq_getElem hj)
    cases e
    exact hc
/-- A slice of the region's own that reads as a list. -/
def freshS {α : Type} (d : Kd α) (e : TypeId) (w0 : World) (l : List α) : Spec := .such (fun v w => d.R e w w0.heap.size (fun b => w0.heap.size ≤ b) v l) (fun _ _ _ h hc => Kd.R_new h hc)
section
variable {P : Program} {ops : Array Oper} {Q : Exit → Act → World → Prop} {tab : Nat → Spec} {w0 : World} {o : Oper} {d : Nat}
theorem look_val {a : Act} {w : World} {s : Nat} {x : Value} (h : Looks ops tab o a w) (hs : tab s = .val x) (hl : (o.looksAt ops).contains s = true) : a.tmps[s]?.getD undef = x := by
  have := h s hl
  rw [hs] at this
  rw [← Array.getD_eq_getD_getElem?]
  exact this
theorem TabStep.conv {s : Nat} {src dst e e' : TypeId} {l : List UInt8} (hw : wantB tab ops o = some true) (hd : o.dst = some d) (ho : o.op = .convert src dst (.tmp s)) (hx : tab d = .val (.string (strOf l))) (hs : tab s = freshS Kd.byte e' w0 l) (hl : (o.looksAt ops).contains s = true)
    (h1 : P.underlying src = some (.slice e)) (h2 : P.underlying e = some (.int .u8)) (h3 : P.underlying dst = some .string) : TabStep P ops Q tab w0 o := by
  refine TabStep.val hw hd hx (fun a w hc hk => ?_)
  have h := hk s hl
  rw [hs] at h
  obtain ⟨A, c, hv, _, hC⟩ := Kd.R_C h
  have e1 : a.tmps[s]?.getD undef = .slice A l.length c := by rw [← Array.getD_eq_getD_getElem?]; exact hv
  have hr := run_conv (c := c) hC rfl h1 h2 h3
  clear hv hs hx h hk hC
  unfold execOp
  rw [ho]
  go_simp
theorem TabStep.sadd {x y : Nat} {t t2 : TypeId} {a b : ByteArray} (hw : wantB tab ops o = some true) (hd : o.dst = some d) (ho : o.op = .binOp .add t (.tmp x) (.tmp y) t2) (hx : tab d = .val (.string (a ++ b))) (h1 : tab x = .val (.string a)) (h2 : tab y = .val (.string b)) (hl1 : (o.looksAt ops).contains x = true) (hl2 : (o.looksAt ops).contains y = true)
    (hz : a.size + b.size ≤ 9223372036854775807) : TabStep P ops Q tab w0 o := by
  refine TabStep.val hw hd hx (fun c w hc hk => ?_)
  have e1 := look_val hk h1 hl1
  have e2 := look_val hk h2 hl2
  have hr := fun w' => run_string_add_sum (P := P) (w := w') a b hz
  unfold execOp
  rw [ho]
  go_simp
theorem TabStep.scmp (n : Bool) {x y : Nat} {t t2 : TypeId} {a b : ByteArray} (hw : wantB tab ops o = some true) (hd : o.dst = some d) (ho : o.op = .binOp (if n then .neq else .eql) t (.tmp x) (.tmp y) t2) (hx : tab d = .val (.bool (n != (a.toList == b.toList)))) (h1 : tab x = .val (.string a)) (h2 : tab y = .val (.string b)) (hl1 : (o.looksAt ops).contains x = true) (hl2 : (o.looksAt ops).contains y = true) : TabStep P ops Q tab w0 o := by
  refine TabStep.val hw hd hx (fun c w hc hk => ?_)
  have e1 := look_val hk h1 hl1
  have e2 := look_val hk h2 hl2
  unfold execOp
  rw [ho]
  cases n
  · go_simp
  · go_simp
theorem TabStep.sneq {x y : Nat} {t t2 : TypeId} {a b : ByteArray} (hw : wantB tab ops o = some true) (hd : o.dst = some d) (ho : o.op = .binOp .neq t (.tmp x) (.tmp y) t2) (hx : tab d = .val (.bool false)) (h1 : tab x = .val (.string a)) (h2 : tab y = .val (.string b)) (hl1 : (o.looksAt ops).contains x = true) (hl2 : (o.looksAt ops).contains y = true) (he : a = b) : TabStep P ops Q tab w0 o :=
  TabStep.scmp true (a := a) (b := b) hw hd ho (by rw [hx, he]; simp) h1 h2 hl1 hl2
theorem TabStep.seql {x y : Nat} {t t2 : TypeId} {a b : ByteArray} (hw : wantB tab ops o = some true) (hd : o.dst = some d) (ho : o.op = .binOp .eql t (.tmp x) (.tmp y) t2) (hx : tab d = .val (.bool true)) (h1 : tab x = .val (.string a)) (h2 : tab y = .val (.string b)) (hl1 : (o.looksAt ops).contains x = true) (hl2 : (o.looksAt ops).contains y = true) (he : a = b) : TabStep P ops Q tab w0 o :=
  TabStep.scmp false (a := a) (b := b) hw hd ho (by rw [hx, he]; simp) h1 h2 hl1 hl2
end
end Go.Proofs.Yticbffoclnjciaa
