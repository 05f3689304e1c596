import Derived.Test.YthleagjnhpjhiaaFold05
import Derived.Test.YthleagjnhpjhiaaFold01
import Derived.Deep.MidRow
import Derived.Deep.RegionHeld3
import Derived.Deep.DrawnRows
/- Commands: how they read; which fields a kind has. -/
namespace Go.Proofs.Ythleagjnhpjhiaa
open Go.RowKit
set_option linter.unusedVariables false
set_option linter.unusedSimpArgs false
set_option maxRecDepth 100000
/-- What is asked of the commands within: how many there are, whether they may be. -/
class Sz (α : Type) where
  len : α → Nat
  may : α → Bool
  nil : α
/-- A command. -/
structure Cm (α : Type) where
  kind : Int
  node : Int
  port : Int
  status : Int
  id : ByteArray
  name : ByteArray
  service : ByteArray
  remark : ByteArray
  key : ByteArray
  value : ByteArray
  src : ByteArray
  dst : ByteArray
  tags : List ByteArray
  allow : Bool
  old : Int
  session : Int
  subs : α
abbrev CmT (α : Type) := Int × Int × Int × Int × ByteArray × ByteArray × ByteArray × ByteArray × ByteArray × ByteArray × ByteArray × ByteArray × List ByteArray × Bool × Int × Int × α
def Cm.tup {α : Type} (x : Cm α) : CmT α := (x.kind, x.node, x.port, x.status, x.id, x.name, x.service, x.remark, x.key, x.value, x.src, x.dst, x.tags, x.allow, x.old, x.session, x.subs)
def Cm.ofTup {α : Type} (t : CmT α) : Cm α := ⟨t.1, t.2.1, t.2.2.1, t.2.2.2.1, t.2.2.2.2.1, t.2.2.2.2.2.1, t.2.2.2.2.2.2.1, t.2.2.2.2.2.2.2.1, t.2.2.2.2.2.2.2.2.1, t.2.2.2.2.2.2.2.2.2.1, t.2.2.2.2.2.2.2.2.2.2.1, t.2.2.2.2.2.2.2.2.2.2.2.1, t.2.2.2.2.2.2.2.2.2.2.2.2.1, t.2.2.2.2.2.2.2.2.2.2.2.2.2.1, t.2.2.2.2.2.2.2.2.2.2.2.2.2.2.1, t.2.2.2.2.2.2.2.2.2.2.2.2.2.2.2.1, t.2.2.2.2.2.2.2.2.2.2.2.2.2.2.2.2⟩
abbrev cmtK {α : Type} (d : Kd α) : Kd (CmT α) := Kd.pair (intW .i64) (Kd.pair (intW .i64) (Kd.pair (intW .i64) (Kd.pair (intW .i64) (Kd.pair strW (Kd.pair strW (Kd.pair strW (Kd.pair strW (Kd.pair strW (Kd.pair strW (Kd.pair strW (Kd.pair strW (Kd.pair tagsW (Kd.pair Kd.bool (Kd.pair (intW .u64) (Kd.pair (intW .u64) d)))))))))))))))
def cmdK {α : Type} (d : Kd α) : Kd (Cm α) := Kd.iso (cmtK d) Cm.tup
def txts {α : Type} (x : Cm α) : List ByteArray := [x.id, x.name, x.service, x.remark, x.key, x.value, x.src, x.dst]
def nums {α : Type} (x : Cm α) : List Int := [x.node, x.port, x.status]
/-- What holds of every command that is read. -/
structure CmOk {α : Type} (x : Cm α) : Prop where
  kind : -9223372036854775808 ≤ x.kind ∧ x.kind ≤ 9223372036854775807
  num : ∀ n ∈ nums x, -9223372036854775808 ≤ n ∧ n ≤ 9223372036854775807
  txt : ∀ s ∈ txts x, s.size ≤ 140737488351232
  old : 0 ≤ x.old ∧ x.old < 18446744073709551616
  session : 0 ≤ x.session ∧ x.session < 18446744073709551616
  tags : x.tags.length * 16 ≤ 140737488351232
def cmL {α : Type} (x : Cm α) (T : Option Addr) (tc : Nat) (s : Value) : List Value :=
  [.int .i64 x.kind, .int .i64 x.node, .int .i64 x.port, .int .i64 x.status, .string x.id, .string x.name, .string x.service, .string x.remark, .string x.key, .string x.value, .string x.src, .string x.dst, .slice T x.tags.length tc, .bool x.allow, .int .u64 x.old, .int .u64 x.session, s]
theorem wf_i64' {x : Int} (h : (Lit.int .i64 x).wf = true) : -9223372036854775808 ≤ x ∧ x ≤ 9223372036854775807 := wf_i64 h
theorem wf_u64' {x : Int} (h : (Lit.int .u64 x).wf = true) : 0 ≤ x ∧ x < 18446744073709551616 := by have := wf_u64 h; omega
theorem i64_wf {x : Int} (h : -9223372036854775808 ≤ x ∧ x ≤ 9223372036854775807) : (Lit.int .i64 x).wf = true := by
  have h1 : IntKind.i64.min ≤ x ∧ x ≤ IntKind.i64.max := h
  simp [Lit.wf, h1]
  omega
theorem u64_wf {x : Int} (h : 0 ≤ x ∧ x < 18446744073709551616) : (Lit.int .u64 x).wf = true := by
  have h1 : IntKind.u64.min ≤ x ∧ x ≤ IntKind.u64.max := ⟨h.1, by have := h.2; show x ≤ 18446744073709551615; omega⟩
  simp [Lit.wf, h1]
section
variable {α : Type} {d : Kd α} {w : World} {ok : Nat → Prop} {x : Cm α} {cs : List Value}
theorem cmd_cells (h1 : d.sz = 1) (h : (cmdK d).K w ok x cs) : ∃ T tc s, cs = cmL x T tc s ∧ x.tags.length ≤ tc ∧ strW.C w ok T x.tags ∧ d.K w ok x.subs [s] ∧ CmOk x := by
  obtain ⟨c0, _, e, ⟨h0, o0⟩, c1, _, rfl, ⟨h1', o1⟩, c2, _, rfl, ⟨h2, o2⟩, c3, _, rfl, ⟨h3, o3⟩, c4, _, rfl, ⟨h4, o4⟩, c5, _, rfl, ⟨h5, o5⟩, c6, _, rfl, ⟨h6, o6⟩, c7, _, rfl, ⟨h7, o7⟩, c8, _, rfl, ⟨h8, o8⟩, c9, _, rfl, ⟨h9, o9⟩, c10, _, rfl, ⟨h10, o10⟩, c11, _, rfl, ⟨h11, o11⟩, c12, _, rfl, ⟨⟨T, tc, h12, hl, hC⟩, o12⟩, c13, _, rfl, h13, c14, _, rfl, ⟨h14, o14⟩, c15, c16, rfl, ⟨h15, o15⟩, h16⟩ := h
  have e0 : c0 = [.int .i64 x.kind] := h0
  have e1 : c1 = [.int .i64 x.node] := h1'
  have e2 : c2 = [.int .i64 x.port] := h2
  have e3 : c3 = [.int .i64 x.status] := h3
  have e4 : c4 = [.string x.id] := h4
  have e5 : c5 = [.string x.name] := h5
  have e6 : c6 = [.string x.service] := h6
  have e7 : c7 = [.string x.remark] := h7
  have e8 : c8 = [.string x.key] := h8
  have e9 : c9 = [.string x.value] := h9
  have e10 : c10 = [.string x.src] := h10
  have e11 : c11 = [.string x.dst] := h11
  have e13 : c13 = [.bool x.allow] := h13
  have e14 : c14 = [.int .u64 x.old] := h14
  have e15 : c15 = [.int .u64 x.session] := h15
  have hlen := d.len h16
  rw [h1] at hlen
  obtain ⟨s, rfl⟩ : ∃ s, c16 = [s] := List.length_eq_one_iff.1 hlen
  subst e0 e1 e2 e3 e4 e5 e6 e7 e8 e9 e10 e11 h12 e13 e14 e15
  refine ⟨T, tc, s, e, hl, hC, h16, ⟨wf_i64 o0, ?_, ?_, wf_u64' o14, wf_u64' o15, o12⟩⟩
  · intro n hn
    simp only [nums, List.mem_cons, List.not_mem_nil, or_false] at hn
    rcases hn with rfl | rfl | rfl
    · exact wf_i64 o1
    · exact wf_i64 o2
    · exact wf_i64 o3
  · intro s' hs
    simp only [txts, List.mem_cons, List.not_mem_nil, or_false] at hs
    rcases hs with rfl | rfl | rfl | rfl | rfl | rfl | rfl | rfl
    · exact o4
    · exact o5
    · exact o6
    · exact o7
    · exact o8
    · exact o9
    · exact o10
    · exact o11
theorem cmd_mk {T : Option Addr} {tc : Nat} {s : Value} (hl : x.tags.length ≤ tc) (hC : strW.C w ok T x.tags) (hs : d.K w ok x.subs [s]) (ho : CmOk x) : (cmdK d).K w ok x (cmL x T tc s) :=
  ⟨[_], _, rfl, ⟨rfl, i64_wf ho.kind⟩, [_], _, rfl, ⟨rfl, i64_wf (ho.num _ (by simp [nums, Cm.tup]))⟩, [_], _, rfl, ⟨rfl, i64_wf (ho.num _ (by simp [nums, Cm.tup]))⟩, [_], _, rfl, ⟨rfl, i64_wf (ho.num _ (by simp [nums, Cm.tup]))⟩,
   [_], _, rfl, ⟨rfl, ho.txt _ (by simp [txts, Cm.tup])⟩, [_], _, rfl, ⟨rfl, ho.txt _ (by simp [txts, Cm.tup])⟩, [_], _, rfl, ⟨rfl, ho.txt _ (by simp [txts, Cm.tup])⟩, [_], _, rfl, ⟨rfl, ho.txt _ (by simp [txts, Cm.tup])⟩,
   [_], _, rfl, ⟨rfl, ho.txt _ (by simp [txts, Cm.tup])⟩, [_], _, rfl, ⟨rfl, ho.txt _ (by simp [txts, Cm.tup])⟩, [_], _, rfl, ⟨rfl, ho.txt _ (by simp [txts, Cm.tup])⟩, [_], _, rfl, ⟨rfl, ho.txt _ (by simp [txts, Cm.tup])⟩,
   [_], _, rfl, ⟨⟨T, tc, rfl, hl, hC⟩, ho.tags⟩, [_], _, rfl, rfl, [_], _, rfl, ⟨rfl, u64_wf ho.old⟩, [_], _, rfl, ⟨rfl, u64_wf ho.session⟩, hs⟩
end
/-- A row of commands of which only its length is read. -/
def lenK : Kd Nat where
  sz := 1
  pos := by decide
  K := fun w ok n cs => n ≤ 9223372036854775807 ∧ ∃ A c, cs = [.slice A n c] ∧ n ≤ c
  len := by
    rintro w ok x cs ⟨_, A, c, rfl, _⟩
    rfl
  one := by
    rintro w ok x cs ⟨_, A, c, rfl, _⟩ u hu
    rw [List.mem_singleton.1 hu]
    rfl
  mono := fun _ h => h
  bound := fun h => h
  move := fun _ h => h
/-- A kind of one slice. -/
structure SubK {α : Type} [Sz α] (d : Kd α) : Prop where
  sz : d.sz = 1
  cut : ∀ {w : World} {ok : Nat → Prop} {x : α} {cs : List Value}, d.K w ok x cs → ∃ A c, cs = [.slice A (Sz.len x) c] ∧ Sz.len x ≤ c ∧ Sz.len x ≤ 9223372036854775807
  nil : ∀ (w : World) (ok : Nat → Prop), d.K w ok Sz.nil [.slice none 0 0]
abbrev Cm0 := Cm Nat
instance : Sz Nat := ⟨fun n => n, fun _ => true, 0⟩
abbrev cm0K : Kd Cm0 := cmdK lenK
abbrev subsK : Kd (List Cm0) := listK cm0K 232
theorem len_sub : SubK lenK := ⟨rfl, fun h => by obtain ⟨h1, A, c, rfl, h2⟩ := h; exact ⟨A, c, rfl, h2, h1⟩, fun w ok => ⟨by decide, none, 0, rfl, Nat.le_refl _⟩⟩
/-- Which fields a kind has, as bits. -/
def hasN (k : Int) : Nat := if 1 ≤ k ∧ k ≤ 18 then [0, 65, 1, 2075, 9, 109, 9, 5632, 13824, 9728, 384, 8576, 128, 8320, 16768, 16768, 1, 16384, 32768].getD k.toNat 0 else 0
def bitN (h k : Nat) : Bool := h / 2 ^ k % 2 == 1
theorem kinds {k : Int} (h : 1 ≤ k ∧ k ≤ 18) : k = 1 ∨ k = 2 ∨ k = 3 ∨ k = 4 ∨ k = 5 ∨ k = 6 ∨ k = 7 ∨ k = 8 ∨ k = 9 ∨ k = 10 ∨ k = 11 ∨ k = 12 ∨ k = 13 ∨ k = 14 ∨ k = 15 ∨ k = 16 ∨ k = 17 ∨ k = 18 := by omega
theorem hasN_none {k : Int} (h : ¬ (1 ≤ k ∧ k ≤ 18)) : hasN k = 0 := if_neg h
theorem hasN_zero {k : Int} : hasN k = 0 ↔ ¬ (1 ≤ k ∧ k ≤ 18) := by
  refine ⟨fun h k1 => ?_, hasN_none⟩
  rcases kinds k1 with rfl | rfl | rfl | rfl | rfl | rfl | rfl | rfl | rfl | rfl | rfl | rfl | rfl | rfl | rfl | rfl | rfl | rfl <;> exact absurd h (by decide)
theorem hasN_lt (k : Int) : hasN k < 65536 := by
  by_cases h : 1 ≤ k ∧ k ≤ 18
  · rcases kinds h with rfl | rfl | rfl | rfl | rfl | rfl | rfl | rfl | rfl | rfl | rfl | rfl | rfl | rfl | rfl | rfl | rfl | rfl <;> decide
  · rw [hasN_none h]; decide
theorem hasN_subs {k : Int} (h : bitN (hasN k) 15 = true) : k = 18 := by
  by_cases h1 : 1 ≤ k ∧ k ≤ 18
  · rcases kinds h1 with rfl | rfl | rfl | rfl | rfl | rfl | rfl | rfl | rfl | rfl | rfl | rfl | rfl | rfl | rfl | rfl | rfl | rfl <;> first | rfl | exact absurd h (by decide)
  · rw [hasN_none h1] at h; exact absurd h (by decide)
/-- The document's word for it. -/
def hasS (k : Int) : ByteArray := if hasN k = 0 then ByteArray.empty else ⟨((List.range 16).map fun j => if bitN (hasN k) j then (120 : UInt8) else 46).toArray⟩
end Go.Proofs.Ythleagjnhpjhiaa

/- Structs of many cells: a load and a store of the whole, by ranges (no unrolling). -/
namespace Go.Proofs.Ythleagjnhpjhiaa
open Go.RowKit
set_option linter.unusedVariables false
set_option linter.unusedSimpArgs false
theorem rng_row {w : World} {g t : Nat} {cs : Array Value} {fr : Nat × Nat} (h : w.heap[g]? = some (.cells cs t fr)) : w.rangeAt g 0 cs.toList := fun j v hv => by
  rw [Nat.zero_add, cell_of_row _ _ _ _ _ _ h, ← hv, Array.getElem?_toList]
theorem there_row {w : World} {g t : Nat} {cs : Array Value} (h : w.heap[g]? = some (.cells cs t (0, 0))) : w.there g 0 cs.size := fun j hj => by
  rw [Nat.zero_add]
  exact ⟨by rw [cell_of_row _ _ _ _ _ _ h, Array.getElem?_eq_getElem hj]; rfl, by simp [World.frozen?, h]⟩
theorem rng_chg {w w' : World} {b o : Nat} {cs : List Value} {S : Nat → Prop} (h : w.rangeAt b o cs) (hc : Chg S w w') (hb : ¬ S b) : w'.rangeAt b o cs := fun j v hv => hc.cell (h j v hv) hb
theorem rng_part {w : World} {b o : Nat} {cs : List Value} (h : w.rangeAt b o cs) (n m : Nat) : w.rangeAt b (o + n) ((cs.drop n).take m) := fun j v hv => by
  rw [List.getElem?_take] at hv
  split at hv
  · rw [List.getElem?_drop] at hv
    rw [Nat.add_assoc]
    exact h _ v hv
  · cases hv
theorem chg_setCells {g : Nat} : ∀ (vs : List Value) (o : Nat) (w : World), Chg (fun b => b = g) w (w.setCells g o vs)
  | [], o, w => Chg.refl _ _
  | v :: vs, o, w => ((Chg.refl (fun b => b = g) w).set1 o v).trans (chg_setCells vs (o + 1) _) (fun i hi => .inl hi)
theorem row_setCells {g t : Nat} {fr : Nat × Nat} : ∀ (vs : List Value) (o : Nat) (w : World) (cs : Array Value), w.heap[g]? = some (.cells cs t fr) → o + vs.length = cs.size → (w.setCells g o vs).heap[g]? = some (.cells (cs.toList.take o ++ vs).toArray t fr)
  | [], o, w, cs, h, hl => by
    have : cs.toList.take o = cs.toList := List.take_of_length_le (by simp at hl ⊢; omega)
    rw [List.append_nil, this]
    exact h
  | v :: vs, o, w, cs, h, hl => by
    have h1 : (w.setCell ⟨g, o, none⟩ v).heap[g]? = some (.cells (cs.setIfInBounds o v) t fr) := by simp [World.setCell, Array.getElem?_modify, h]
    have h2 := row_setCells vs (o + 1) (w.setCell ⟨g, o, none⟩ v) (cs.setIfInBounds o v) h1 (by rw [Array.size_setIfInBounds]; simp at hl; omega)
    have hlt : o < cs.toList.length := by simp at hl ⊢; omega
    have e : (cs.setIfInBounds o v).toList.take (o + 1) = cs.toList.take o ++ [v] := by
      rw [Array.toList_setIfInBounds, List.take_succ_eq_append_getElem (by rw [List.length_set]; exact hlt), List.getElem_set_self, List.take_set, List.set_eq_of_length_le (by rw [List.length_take]; omega)]
    rw [e, List.append_assoc, List.singleton_append] at h2
    exact h2
/-- A whole block is written. -/
theorem row_stored {w : World} {g t : Nat} {cs vs : Array Value} (h : w.heap[g]? = some (.cells cs t (0, 0))) (hl : vs.size = cs.size) : (w.setCells g 0 vs.toList).heap[g]? = some (.cells vs t (0, 0)) := by
  have := row_setCells vs.toList 0 w cs h (by rw [Array.length_toList, Nat.zero_add]; exact hl)
  rw [List.take_zero, List.nil_append] at this
  exact this
#print axioms row_stored
end Go.Proofs.Ythleagjnhpjhiaa

/- A region of open order, operation by operation: small words. -/
namespace Go.Proofs.Ythleagjnhpjhiaa
open Go.RowKit
set_option linter.unusedVariables false
theorem wpAnyH_weaken {P : Program} {ops : Array Oper} {Q : Exit → Act → World → Prop} {md : Region.Mode} {S S' : World → Prop} (hs : ∀ w, S' w → S w) : ∀ (fuel : Nat) (listed : Array Bool) (a : Act) (w : World), wpAnyH P md ops Q S' fuel listed a w → wpAnyH P md ops Q S fuel listed a w
  | 0, _, _, _, h => h
  | fuel + 1, _, _, _, h => ⟨h.1, fun i hi => wpOp_mono (fun a' w' h' => ⟨hs _ h'.1, wpAnyH_weaken hs fuel _ a' w' h'.2⟩) (h.2 i hi)⟩
theorem pick0 {o : Oper} {l : List Oper} : (o :: l).toArray[0]? = some o := rfl
theorem pickS {o x : Oper} {l : List Oper} {i : Nat} (h : l.toArray[i]? = some x) : (o :: l).toArray[i + 1]? = some x := by simpa using h
end Go.Proofs.Ythleagjnhpjhiaa
