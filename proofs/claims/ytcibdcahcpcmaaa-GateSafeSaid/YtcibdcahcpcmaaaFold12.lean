import Derived.Test.YtcibdcahcpcmaaaFold04
import Derived.Laws.StructEq
import Derived.Maps.OwnOps
import Derived.WideKeyRuns
import Derived.ChangeMaps5
import Derived.MapKept
import Derived.Test.YtcibdcahcpcmaaaFold01
import Derived.Deep.RegionHeld3
import Derived.Deep.DrawnRows
/- Questions: two are compared. -/
namespace Go.Proofs.Ytcibdcahcpcmaaa
open Go.RowKit
set_option linter.unusedVariables false
set_option linter.unusedSimpArgs false
/-- The cells of a question. -/
def qryV (q : Qry) : Array Value := #[.int .i64 q.1, .int .i64 q.2.1, .string q.2.2.1, .string q.2.2.2.1, .string q.2.2.2.2.1, .bool q.2.2.2.2.2]
theorem qry_mk {w : World} {ok : Nat → Prop} (q : Qry) : qryK.K w ok q (qryV q).toList := ⟨[_], _, rfl, rfl, [_], _, rfl, rfl, [_], _, rfl, rfl, [_], _, rfl, rfl, [_], [_], rfl, rfl, rfl⟩
theorem qry_cells {w : World} {ok : Nat → Prop} {q : Qry} {cs : List Value} (h : qryK.K w ok q cs) : cs = (qryV q).toList := by
  obtain ⟨c0, _, e, h0, c1, _, rfl, h1, c2, _, rfl, h2, c3, _, rfl, h3, c4, c5, rfl, h4, h5⟩ := h
  have h0' : c0 = [.int .i64 q.1] := h0
  have h1' : c1 = [.int .i64 q.2.1] := h1
  have h2' : c2 = [.string q.2.2.1] := h2
  have h3' : c3 = [.string q.2.2.2.1] := h3
  have h4' : c4 = [.string q.2.2.2.2.1] := h4
  have h5' : c5 = [.bool q.2.2.2.2.2] := h5
  subst h0' h1' h2' h3' h4' h5'
  exact e
theorem Kd.Flat.pair {α β : Type} {a : Kd α} {b : Kd β} (h : a.Flat) (k : b.Flat) : (Kd.pair a b).Flat := fun ⟨c0, c1, e, h0, h1⟩ => ⟨c0, c1, e, h h0, k h1⟩
theorem qry_flat : qryK.Flat := Kd.Flat.pair Kd.scalar_flat (Kd.Flat.pair Kd.scalar_flat (Kd.Flat.pair Kd.scalar_flat (Kd.Flat.pair Kd.scalar_flat (Kd.Flat.pair Kd.scalar_flat Kd.scalar_flat))))
theorem qry_info : (Try.prog.info? 61).map (fun i => (i.zero, i.size, i.bytes)) = some (some (.agg #[.int .i64 0, .int .i64 0, .string ByteArray.empty, .string ByteArray.empty, .string ByteArray.empty, .bool false]), qryK.sz, 72) := by kernel_rfl
/-- Whether two are the same. -/
def qEq (Q R : Qry) : Bool := decide (Q.1 = R.1 ∧ Q.2.1 = R.2.1 ∧ Q.2.2.1 = R.2.2.1 ∧ Q.2.2.2.1 = R.2.2.2.1 ∧ Q.2.2.2.2.1 = R.2.2.2.2.1 ∧ Q.2.2.2.2.2 = R.2.2.2.2.2)
theorem qEq_iff {Q R : Qry} : qEq Q R = true ↔ Q = R := by
  unfold qEq
  rw [decide_eq_true_iff]
  constructor
  · rintro ⟨h1, h2, h3, h4, h5, h6⟩
    obtain ⟨a1, a2, a3, a4, a5, a6⟩ := Q
    obtain ⟨b1, b2, b3, b4, b5, b6⟩ := R
    simp only at h1 h2 h3 h4 h5 h6
    subst h1 h2 h3 h4 h5 h6
    rfl
  · rintro rfl
    exact ⟨rfl, rfl, rfl, rfl, rfl, rfl⟩
theorem qEq_self (Q : Qry) : qEq Q Q = true := qEq_iff.2 rfl
theorem ba_eqL {a b : ByteArray} : (a.toList = b.toList) = (a = b) := by
  refine propext ⟨fun h => ?_, fun h => by rw [h]⟩
  have := str_eq a b
  rw [h] at this
  simpa using this.symm
theorem eqQry (Q R : Qry) (w : World) : (Op.equalIn 10000 61 (.agg (qryV Q)) (.agg (qryV R))).run Try.prog w = .ok (qEq Q R) w := by
  have u1 := Try.underlying9
  have u2 := Try.underlying3
  have u3 := Try.underlying4
  obtain ⟨a1, a2, a3, a4, a5, a6⟩ := Q
  obtain ⟨b1, b2, b3, b4, b5, b6⟩ := R
  unfold qryV
  rw [show (10000 : Nat) = 9999 + 1 from rfl]
  rw [run_equalIn_agg w 9999 _ _ _ (by kernel_rfl) (by kernel_rfl)]
  simp only [Program.fieldsOf, Try.underlying61]
  go_simp
  simp only [ba_eqL, qEq]
  by_cases h1 : a1 = b1
  · by_cases h2 : a2 = b2
    · by_cases h3 : a3 = b3
      · by_cases h4 : a4 = b4
        · by_cases h5 : a5 = b5
          · by_cases h6 : a6 = b6 <;> simp [h1, h2, h3, h4, h5, h6]
          · simp [h1, h2, h3, h4, h5]
        · simp [h1, h2, h3, h4]
      · simp [h1, h2, h3]
    · simp [h1, h2]
  · simp [h1]
theorem neqQry (Q R : Qry) (w : World) : (binOp .neq 61 (.agg (qryV Q)) (.agg (qryV R))).run Try.prog w = .ok (.bool (!qEq Q R)) w := by
  rw [run_neq_struct, eqQry]
  rfl
theorem eqlQry (Q R : Qry) (w : World) : (binOp .eql 61 (.agg (qryV Q)) (.agg (qryV R))).run Try.prog w = .ok (.bool (qEq Q R)) w := by
  rw [run_eql_struct, eqQry]
  rfl
end Go.Proofs.Ytcibdcahcpcmaaa

/- A map from questions to answers in memory: its operations. -/
namespace Go.Proofs.Ytcibdcahcpcmaaa
open Go.RowKit
set_option linter.unusedVariables false
set_option linter.unusedSimpArgs false
/-- Questions, and the cells of their answers. -/
abbrev QMap := List (Qry × Array Value)
/-- Block r is a map that holds just these, in this order. -/
def MapRaw (w : World) (r : Nat) (l : QMap) : Prop :=
  ∃ es clock, w.heap[r]? = some (.map es clock) ∧ es.toList.map (fun e => (e.key, e.val)) = l.map (fun p => ((.agg (qryV p.1) : Value), (.agg p.2 : Value)))
theorem MapRaw.lt {w : World} {r : Nat} {l : QMap} (h : MapRaw w r l) : r < w.heap.size := by
  obtain ⟨es, clock, hb, _⟩ := h
  rcases Nat.lt_or_ge r w.heap.size with h' | h'
  · exact h'
  · rw [Array.getElem?_eq_none h'] at hb
    cases hb
theorem MapRaw.keep {w w' : World} {r : Nat} {l : QMap} {S : Nat → Prop} (h : MapRaw w r l) (hc : Chg S w w') (hS : ¬ S r) : MapRaw w' r l := by
  obtain ⟨es, clock, hb, he⟩ := h
  exact ⟨es, clock, by rw [hc.block r (MapRaw.lt ⟨es, clock, hb, he⟩) hS, hb], he⟩
theorem MapRaw.made (w : World) : MapRaw (w.alloc (.map #[] 0)) w.heap.size [] := ⟨#[], 0, heap_alloc_new w _, rfl⟩
/-- What stands at a question. -/
def seekQ : QMap → Qry → Option (Array Value)
  | [], _ => none
  | (p, c) :: l, q => if qEq q p then some c else seekQ l q
def putQ : QMap → Qry → Array Value → QMap
  | [], q, c => [(q, c)]
  | (p, d) :: l, q, c => if qEq q p then (p, c) :: l else (p, d) :: putQ l q c
def placeQ : QMap → Qry → Nat → Option (Nat × Array Value)
  | [], _, _ => none
  | (p, c) :: l, q, i => if qEq q p then some (i, c) else placeQ l q (i + 1)
theorem placeQ_seek (l : QMap) (q : Qry) : ∀ i, (placeQ l q i).map Prod.snd = seekQ l q := by
  induction l with
  | nil => intro i; rfl
  | cons p l ih =>
    intro i
    obtain ⟨p, c⟩ := p
    unfold placeQ seekQ
    by_cases h : qEq q p = true
    · rw [if_pos h, if_pos h]; rfl
    · rw [if_neg h, if_neg h]; exact ih _
theorem run_askQ (q : Qry) (w : World) : ∀ (es : List MapEntry) (l : QMap) (i : Nat), es.map (fun e => (e.key, e.val)) = l.map (fun p => ((.agg (qryV p.1) : Value), (.agg p.2 : Value))) →
    (Instr.findAsking 61 (.agg (qryV q)) es i).run Try.prog w = .ok ((placeQ l q i).map fun p => (p.1, .agg p.2)) w := by
  intro es
  induction es with
  | nil =>
    intro l i h
    cases l with
    | nil => rfl
    | cons p l => simp at h
  | cons e es ih =>
    intro l i h
    cases l with
    | nil => simp at h
    | cons p l =>
      obtain ⟨p, c⟩ := p
      simp only [List.map_cons, List.cons.injEq, Prod.mk.injEq] at h
      obtain ⟨⟨hk, hv⟩, ht⟩ := h
      have he := eqQry q p w
      unfold Instr.findAsking placeQ
      simp only [Sem.run_bind, Op.equal, Op.maxDepth, hk, he, Result.andThen_ok]
      by_cases hq : qEq q p = true
      · rw [if_pos hq, if_pos hq]
        simp [hv]
      · rw [if_neg hq, if_neg hq]
        exact ih l (i + 1) ht
theorem run_findQ (q : Qry) (w : World) (es : List MapEntry) (l : QMap) (h : es.map (fun e => (e.key, e.val)) = l.map (fun p => ((.agg (qryV p.1) : Value), (.agg p.2 : Value)))) :
    (Instr.findKey 61 (.agg (qryV q)) es).run Try.prog w = .ok ((placeQ l q 0).map fun p => (p.1, .agg p.2)) w := by
  rw [run_findKey_eq w (by rw [Try.underlying61])]
  exact run_askQ q w es l 0 h
theorem run_checkQ (em : Bool) (q : Qry) (w : World) : (Instr.checkKey em 10000 61 (.agg (qryV q))).run Try.prog w = .ok () w := by
  obtain ⟨a1, a2, a3, a4, a5, a6⟩ := q
  cases em <;> kernel_rfl
def ansZ : Array Value := #[.int .i64 0, .int .u64 0, .bool false, .int .i64 0, .string ByteArray.empty, .slice none 0 0, .slice none 0 0, .slice none 0 0, .slice none 0 0, .slice none 0 0, .slice none 0 0]
theorem zero_ans (w : World) : (zeroValue 57).run Try.prog w = .ok (.agg ansZ) w := by kernel_rfl
theorem run_lookQ {w : World} {r : Nat} {l : QMap} (h : MapRaw w r l) (q : Qry) :
    (Instr.lookup 80 (.map (some r)) (.agg (qryV q)) true).run Try.prog w = .ok (.tuple #[.agg ((seekQ l q).getD ansZ), .bool (seekQ l q).isSome]) w := by
  obtain ⟨es, clock, hb, he⟩ := h
  have h1 := run_findQ q w es.toList l he
  have h2 := placeQ_seek l q 0
  unfold Instr.lookup
  simp only [Sem.run_bind, run_underlying Try.underlying80, Result.andThen_ok, MapKept.run_getObj_map hb, Sem.run_pure, run_checkQ, h1]
  rw [← h2]
  cases hp : placeQ l q 0 with
  | none => simp [zero_ans]; rfl
  | some p => simp
theorem sameQ (q : Qry) : Instr.sameBits 10000 (.agg (qryV q)) (.agg (qryV q)) = true := by
  rw [show (10000 : Nat) = 9999 + 1 from rfl]
  simp [Instr.sameBits, qryV, beq_toListBytes]
theorem placeQ_at {l : QMap} {q : Qry} : ∀ {i j : Nat} {c : Array Value}, placeQ l q i = some (j, c) → i ≤ j ∧ l[j - i]? = some (q, c) ∧ ∀ c', putQ l q c' = l.set (j - i) (q, c') := by
  induction l with
  | nil => intro i j c h; cases h
  | cons p l ih =>
    intro i j c h
    obtain ⟨p, d⟩ := p
    unfold placeQ at h
    by_cases hq : qEq q p = true
    · rw [if_pos hq] at h
      cases h
      have := qEq_iff.1 hq
      subst this
      refine ⟨Nat.le_refl _, by simp, fun c' => ?_⟩
      unfold putQ
      rw [if_pos hq]
      simp
    · rw [if_neg hq] at h
      obtain ⟨h1, h2, h3⟩ := ih h
      have hj : j - i = (j - (i + 1)) + 1 := by omega
      refine ⟨by omega, by rw [hj, List.getElem?_cons_succ, h2], fun c' => ?_⟩
      unfold putQ
      rw [if_neg hq, h3, hj, List.set_cons_succ]
theorem placeQ_none {l : QMap} {q : Qry} : ∀ {i : Nat}, placeQ l q i = none → seekQ l q = none ∧ ∀ c, putQ l q c = l ++ [(q, c)] := by
  induction l with
  | nil => intro i h; exact ⟨rfl, fun c => rfl⟩
  | cons p l ih =>
    intro i h
    obtain ⟨p, d⟩ := p
    unfold placeQ at h
    by_cases hq : qEq q p = true
    · rw [if_pos hq] at h; cases h
    · rw [if_neg hq] at h
      obtain ⟨h1, h2⟩ := ih h
      refine ⟨by unfold seekQ; rw [if_neg hq]; exact h1, fun c => ?_⟩
      unfold putQ
      rw [if_neg hq, h2]
      rfl
theorem chg_map {w : World} {r : Nat} {es : Array MapEntry} {clock : Nat} (hb : w.heap[r]? = some (.map es clock)) (o : Obj) : Chg (fun b => b = r) w { w with heap := w.heap.setIfInBounds r o } ∧ ({ w with heap := w.heap.setIfInBounds r o } : World).heap.size = w.heap.size :=
  ⟨⟨rfl, rfl, rfl, by simp, fun k hk hne => ChangeMaps.heap_setBlock_other hb o hne⟩, by simp⟩
theorem run_updQ {w : World} {r : Nat} {l : QMap} (h : MapRaw w r l) (q : Qry) (c : Array Value) :
    ∃ w', (Instr.mapUpdate 80 (.map (some r)) (.agg (qryV q)) (.agg c)).run Try.prog w = .ok () w' ∧ MapRaw w' r (putQ l q c) ∧ Chg (fun b => b = r) w w' ∧ w'.heap.size = w.heap.size := by
  obtain ⟨es, clock, hb, he⟩ := h
  have h1 := run_findQ q w es.toList l he
  cases hp : placeQ l q 0 with
  | none =>
    obtain ⟨-, hp2⟩ := placeQ_none hp
    rw [hp] at h1
    refine ⟨{ w with heap := w.heap.setIfInBounds r (.map (es.push { key := .agg (qryV q), val := .agg c, born := clock }) (clock + 1)) }, ?_, ⟨_, _, ChangeMaps.heap_setBlock_same hb _, ?_⟩, (chg_map hb _).1, (chg_map hb _).2⟩
    · unfold Instr.mapUpdate
      simp only [Sem.run_bind, run_underlying Try.underlying80, Result.andThen_ok, MapKept.run_getObj_map hb, Sem.run_pure, run_checkQ, h1, Option.map_none]
      exact MapKept.run_setObj_map _ hb
    · rw [hp2, Array.toList_push, List.map_append, he, List.map_append]
      rfl
  | some p =>
    obtain ⟨j, d⟩ := p
    obtain ⟨_, hj, hset⟩ := placeQ_at hp
    rw [Nat.sub_zero] at hj
    rw [hp] at h1
    have hje : (es.toList.map (fun e => (e.key, e.val)))[j]? = some ((.agg (qryV q) : Value), (.agg d : Value)) := by rw [he, List.getElem?_map, hj]; rfl
    obtain ⟨e0, he0, hk0⟩ : ∃ e0, es[j]? = some e0 ∧ (e0.key, e0.val) = ((.agg (qryV q) : Value), (.agg d : Value)) := by
      rw [List.getElem?_map] at hje
      obtain ⟨e0, h3, h4⟩ := Option.map_eq_some_iff.1 hje
      exact ⟨e0, by rw [← Array.getElem?_toList]; exact h3, h4⟩
    simp only [Prod.mk.injEq] at hk0
    refine ⟨{ w with heap := w.heap.setIfInBounds r (.map (es.modify j fun e => { e with key := .agg (qryV q), val := .agg c }) clock) }, ?_, ⟨_, _, ChangeMaps.heap_setBlock_same hb _, ?_⟩, (chg_map hb _).1, (chg_map hb _).2⟩
    · unfold Instr.mapUpdate
      simp only [Sem.run_bind, run_underlying Try.underlying80, Result.andThen_ok, MapKept.run_getObj_map hb, Sem.run_pure, run_checkQ, h1, Option.map_some, Instr.keyThatStays, he0, Option.getD_some, hk0.1, sameQ, if_true]
      exact MapKept.run_setObj_map _ hb
    · rw [hset, Nat.sub_zero, Array.toList_modify]
      apply List.ext_getElem?
      intro i
      rw [List.getElem?_map, List.getElem?_map, List.getElem?_modify, List.getElem?_set]
      have hi : (es.toList.map (fun e => (e.key, e.val)))[i]? = (l.map (fun p => ((.agg (qryV p.1) : Value), (.agg p.2 : Value))))[i]? := by rw [he]
      rw [List.getElem?_map, List.getElem?_map] at hi
      by_cases hij : j = i
      · subst hij
        have hlen : j < l.length := (List.getElem?_eq_some_iff.1 hj).1
        rw [Array.getElem?_toList, he0, if_pos rfl, if_pos hlen]
        simp
      · rw [if_neg hij, ← hi]
        simp [hij]
theorem run_clearQ {w : World} {r : Nat} {l : QMap} (h : MapRaw w r l) (ty : TypeId) :
    ∃ w', (Builtin.clear_ #[80] ty #[.map (some r)]).run Try.prog w = .ok (.tuple #[]) w' ∧ MapRaw w' r [] ∧ Chg (fun b => b = r) w w' ∧ w'.heap.size = w.heap.size := by
  obtain ⟨es, clock, hb, he⟩ := h
  refine ⟨{ w with heap := w.heap.setIfInBounds r (.map #[] clock) }, ?_, ⟨_, _, ChangeMaps.heap_setBlock_same hb _, rfl⟩, (chg_map hb _).1, (chg_map hb _).2⟩
  unfold Builtin.clear_
  simp [run_underlying Try.underlying80, MapKept.run_getObj_map hb, MapKept.run_setObj_map _ hb]
theorem run_lenQ {w : World} {r : Nat} {l : QMap} (h : MapRaw w r l) (ty : TypeId) : (Builtin.len_ #[80] ty #[.map (some r)]).run Try.prog w = .ok (.int .i64 l.length) w := by
  obtain ⟨es, clock, hb, he⟩ := h
  have hl := congrArg List.length he
  rw [List.length_map, List.length_map, Array.length_toList] at hl
  simp [Builtin.len_, run_underlying Try.underlying80, MapKept.run_getObj_map hb, goInt, hl]
section
variable {w : World} {ops : Array Oper} {rest : List Oper} {o : Oper} {a : Act} {Q : Exit → Act → World → Prop} {r : Nat} {l : QMap} {q : Qry}
theorem wp_lookQ (hg : o.guard = none) (m x : Operand) (hop : o.op = Op.lookup 80 m x true) (hm : a.eval m = .map (some r)) (hx : a.eval x = .agg (qryV q)) (h : MapRaw w r l)
    (hK : wpList Try.prog ops Q rest (a.put o.dst (.tuple #[.agg ((seekQ l q).getD ansZ), .bool (seekQ l q).isSome])) w) : wpList Try.prog ops Q (o :: rest) a w := by
  refine wpList_plain hg fun K' hK' => ?_
  unfold Oper.wp
  simp [execOp, hop, hm, hx, run_lookQ h q, Result.andThen]
  exact hK' _ _ hK
theorem wp_updQ (hg : o.guard = none) (m x v : Operand) (hop : o.op = Op.mapUpdate 80 m x v) (hm : a.eval m = .map (some r)) (hx : a.eval x = .agg (qryV q)) (c : Array Value) (hv : a.eval v = .agg c) (h : MapRaw w r l)
    (hK : ∀ w', MapRaw w' r (putQ l q c) → Chg (fun b => b = r) w w' → w'.heap.size = w.heap.size → wpList Try.prog ops Q rest (a.put o.dst undef) w') : wpList Try.prog ops Q (o :: rest) a w := by
  refine wpList_plain hg fun K' hK' => ?_
  obtain ⟨w', hrun, r1, r2, r3⟩ := run_updQ h q c
  unfold Oper.wp
  simp [execOp, hop, hm, hx, hv, hrun, Result.andThen]
  exact hK' _ _ (hK w' r1 r2 r3)
end
theorem seekQ_put (l : QMap) (q p : Qry) (c : Array Value) : seekQ (putQ l q c) p = if qEq p q then some c else seekQ l p := by
  induction l with
  | nil => rfl
  | cons x l ih =>
    obtain ⟨x, d⟩ := x
    unfold putQ
    by_cases hq : qEq q x = true
    · rw [if_pos hq]
      have := qEq_iff.1 hq
      subst this
      unfold seekQ
      by_cases hp : qEq p q = true
      · rw [if_pos hp, if_pos hp]
      · rw [if_neg hp, if_neg hp, if_neg hp]
    · rw [if_neg hq]
      unfold seekQ
      by_cases hp : qEq p x = true
      · rw [if_pos hp, if_pos hp, if_neg]
        intro h
        have h1 := qEq_iff.1 hp
        have h2 := qEq_iff.1 h
        subst h1
        subst h2
        exact hq (qEq_self _)
      · rw [if_neg hp, if_neg hp]
        exact ih
#print axioms wp_updQ
end Go.Proofs.Ytcibdcahcpcmaaa

/- A region of open order, operation by operation: small words. -/
namespace Go.Proofs.Ytcibdcahcpcmaaa
open Go.RowKit
set_option linter.unusedVariables false
theorem wpAnyH_weaken {P : Program} {ops : Array Oper} {Q : Exit → Act → World → Prop} {md : Region.Mode} {S S' : World → Prop} (hs : ∀ w, S' w → S w) : ∀ (fuel : Nat) (listed : Array Bool) (a : Act) (w : World), wpAnyH P md ops Q S' fuel listed a w → wpAnyH P md ops Q S fuel listed a w
  | 0, _, _, _, h => h
  | fuel + 1, _, _, _, h => ⟨h.1, fun i hi => wpOp_mono (fun a' w' h' => ⟨hs _ h'.1, wpAnyH_weaken hs fuel _ a' w' h'.2⟩) (h.2 i hi)⟩
theorem pick0 {o : Oper} {l : List Oper} : (o :: l).toArray[0]? = some o := rfl
theorem pickS {o x : Oper} {l : List Oper} {i : Nat} (h : l.toArray[i]? = some x) : (o :: l).toArray[i + 1]? = some x := by simpa using h
end Go.Proofs.Ytcibdcahcpcmaaa
