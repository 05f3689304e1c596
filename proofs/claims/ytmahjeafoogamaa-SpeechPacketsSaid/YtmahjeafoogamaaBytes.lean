/- Bytes in memory: what append does with them, a block that is known whole, a text out of them. -/
import Derived.Test.YtmahjeafoogamaaKit
import Derived.Test.YtmahjeafoogamaaProg
import Derived.Laws.IdiomStrings
import Derived.BigRegion
import Derived.Laws.Concat
namespace Go.Proofs.Ytmahjeafoogamaa
open Go.RowKit
set_option linter.unusedVariables false
/-! ### bytes in memory -/
def encB (b : UInt8) : Value := .int .u8 (b.toNat : Int)
theorem byte_val (x : Nat) : (Value.int .u8 (IntKind.u8.wrap (x : Int))) = encB (UInt8.ofNat (x % 256)) := by
  unfold encB
  congr 1
  rw [UInt8.toNat_ofNat_of_lt' (show x % 256 < 256 by omega)]
  simp [IntKind.wrap, IntKind.bits, IntKind.signed]
theorem byte_mod (x : Nat) : Value.int .u8 ((x : Int) % 256) = encB (UInt8.ofNat (x % 256)) := by
  unfold encB
  congr 1
  rw [UInt8.toNat_ofNat_of_lt' (show x % 256 < 256 by omega)]
  omega
theorem u8_info : (Try.prog.info? 5).map (fun i => (i.zero, i.size, i.bytes)) = some (some (.int .u8 0), 1, 1) := by kernel_rfl
theorem empty_own (w : World) (base : Nat) (e : TypeId) {α : Type} (d : Kd α) (hb : base ≤ w.heap.size) : d.R e (w.alloc (.cells #[] e)) base (fun k => k = w.heap.size) (.slice (some ⟨w.heap.size, 0, none⟩) 0 0) [] :=
  ⟨fun k hk => by cases hk; rfl, [], World.ownsRow_lit w #[] 0 hb (by simp [maxLen]) (by simp), Reps.nil⟩
theorem byte_ge {e base : Nat} {w : World} {ok : Nat → Prop} {v : Value} {xs : List UInt8} (h : Kd.byte.R e w base ok v xs) : Kd.byte.R e w base (fun b => base ≤ b) v xs := Kd.R_ge Kd.scalar_flat h
section
variable {ops : Array Oper} {rest : List Oper} {o : Oper} {a : Act} {Q : Exit → Act → World → Prop} {w : World}
/-- append(v, bytes...) -/
theorem wp_appB (hgd : o.guard = none) (s x : Operand) (ho : o.op = .call { callee := .builtin .append, args := #[s, x], argTypes := #[26, 26] })
    (base : Nat) (ok ok2 : Nat → Prop) (v : Value) (xs ys : List UInt8) (A : Option Addr) (m c : Nat) (hs : a.eval s = v) (hx : a.eval x = .slice A m c) (hm : ys.length = m)
    (hr : Kd.byte.R 5 w base ok v xs) (hy : Kd.byte.C w ok2 A ys) (hbase : base ≤ w.heap.size) (len : Nat) (hlen : xs.length + m = len) (hl : len ≤ 140737488355328)
    (h : ∀ A' c' w', Kd.byte.R 5 w' base (fun k => some k = (Value.slice A' len c').ownBlock) (.slice A' len c') (xs ++ ys) → Chg (fun k => some k = v.ownBlock) w w' → ((Value.slice A' len c').ownBlock = v.ownBlock ∨ (Value.slice A' len c').ownBlock = some w.heap.size) → wpList Try.prog ops Q rest (a.put o.dst (.slice A' len c')) w') :
    wpList Try.prog ops Q (o :: rest) a w :=
  wp_appendF (d := Kd.byte) Kd.scalar_flat hgd s x 26 ho 5 (.int .u8 0) 1 Try.underlying26 u8_info rfl base ok ok2 v xs ys A m c hs hx hm hr hy (by unfold maxLen; omega) (by omega) hbase len hlen h
/-- append(v, byte) -/
theorem wp_app1B (hgd : o.guard = none) (s x : Operand) (ho : o.op = .call { callee := .builtin .append, args := #[s, x], argTypes := #[26, 26] })
    (base : Nat) (ok : Nat → Prop) (v : Value) (xs : List UInt8) (y : UInt8) (z : Value) (hz : z = encB y) (hs : a.eval s = v) (hx : a.eval x = .slice (some ⟨w.heap.size, 0, none⟩) 1 1)
    (hr : Kd.byte.R 5 w base ok v xs) (hbase : base ≤ w.heap.size) (len : Nat) (hlen : xs.length + 1 = len) (hl : len ≤ 140737488355328)
    (h : ∀ A' c' w', Kd.byte.R 5 w' base (fun k => some k = (Value.slice A' len c').ownBlock) (.slice A' len c') (xs ++ [y]) → Chg (fun k => some k = v.ownBlock) w w' → ((Value.slice A' len c').ownBlock = v.ownBlock ∨ ∃ k, (Value.slice A' len c').ownBlock = some k ∧ w.heap.size ≤ k) → wpList Try.prog ops Q rest (a.put o.dst (.slice A' len c')) w') :
    wpList Try.prog ops Q (o :: rest) a (w.alloc (.cells #[z] 5)) := by
  subst hz
  exact wp_append1F (d := Kd.byte) Kd.scalar_flat hgd s x 26 ho 5 (.int .u8 0) 1 Try.underlying26 u8_info rfl base ok (fun _ => False) v xs y #[encB y] hs hx hr rfl (by unfold maxLen; omega) (by omega) hbase len hlen h
end
/-- A part of a block that is known whole. -/
theorem C_block {w : World} {g o t : Nat} {cs : Array Value} {fr : Nat × Nat} {xs : List UInt8} (h : w.heap[g]? = some (.cells cs t fr)) (hx : cs.toList.drop o = xs.map encB) (hl : xs.length ≤ 9223372036854775807) : Kd.byte.C w (fun b => b = g) (some ⟨g, o, none⟩) xs := by
  refine ⟨hl, xs.map encB, reps_of_scalar xs, fun _ => ⟨_, rfl, rfl, fun j u hu => ?_⟩⟩
  rw [add_at, cell_of_row w g (o + j) cs t fr h, ← Array.getElem?_toList, ← List.getElem?_drop, hx]
  exact hu
theorem block_set {w : World} {g t : Nat} {xs : List UInt8} {i : Nat} {b : UInt8} (h : w.heap[g]? = some (.cells (xs.map encB).toArray t (0, 0))) :
    (w.setCell ⟨g, i, none⟩ (encB b)).heap[g]? = some (.cells ((xs.set i b).map encB).toArray t (0, 0)) := by
  simp [World.setCell, Array.getElem?_modify, h, List.map_set]
theorem block_at {w : World} {g t : Nat} {xs : List UInt8} {i : Nat} (h : w.heap[g]? = some (.cells (xs.map encB).toArray t (0, 0))) (hi : i < xs.length) :
    (∃ v, w.cell? ⟨g, i, none⟩ = some v) ∧ w.frozen? ⟨g, i, none⟩ = false := by
  refine ⟨?_, by simp [World.frozen?, h]⟩
  rw [cell_of_row w g i _ _ _ h]
  exact ⟨_, Array.getElem?_eq_getElem (by simpa using hi)⟩
theorem C_dropB {w : World} {ok : Nat → Prop} {A : Option Addr} {xs : List UInt8} (h : Kd.byte.C w ok A xs) (n c : Nat) (hn : n ≤ xs.length) (hc : xs.length ≤ c) : Kd.byte.C w ok (if c = n then A else A.map (fun x => x.add n)) (xs.drop n) := by
  have := Kd.C_drop h n c hn hc
  simp only [show Kd.byte.sz = 1 from rfl, Nat.mul_one] at this
  exact this
def strOf (l : List UInt8) : ByteArray := ⟨l.toArray⟩
theorem strOf_append (a b : List UInt8) : strOf (a ++ b) = strOf a ++ strOf b := by
  apply ByteArray.ext
  show (a ++ b).toArray = _
  rw [ByteArray.data_append]
  simp [strOf]
theorem strOf_list (l : List UInt8) : (strOf l).toList = l := by rw [ByteArray.toList_eq]; rfl
theorem strOf_size (l : List UInt8) : (strOf l).size = l.length := rfl
theorem run_conv {P : Program} {w : World} {ok : Nat → Prop} {A : Option Addr} {m c : Nat} {bs : List UInt8} {src dst e : TypeId} (h : Kd.byte.C w ok A bs) (hm : bs.length = m)
    (hs : P.underlying src = some (.slice e)) (he : P.underlying e = some (.int .u8)) (hd : P.underlying dst = some .string) :
    (convert src dst (.slice A m c)).run P w = .ok (.string (strOf bs)) w := by
  subst hm
  cases A with
  | none =>
    cases bs with
    | nil => rw [run_convert_bytes_string w src dst e none _ c hs he hd]; rfl
    | cons x l =>
      obtain ⟨ad, e, _⟩ := at_scalar h (j := 0) (x := x) rfl
      cases e
  | some a =>
    refine run_convert_bytes_back w src dst e a c bs hs he hd (fun j hj => ?_)
    obtain ⟨ad, e, _, hc⟩ := at_scalar h (List.getElem?_eq_getElem hj)
    cases e
    exact hc
/-- A call gives bytes of its own. -/
def Tells (w : World) (l : List UInt8) (m : Nat) (e : Ending) (w' : World) : Prop := ∃ A c, e = .returned (.slice A m c) ∧ l.length = m ∧ m ≤ c ∧ Kd.byte.C w' (fun b => w.heap.size ≤ b) A l ∧ Chg nob w w'
theorem conv_any {w : World} {ok : Nat → Prop} {A : Option Addr} {m : Nat} {bs : List UInt8} (h : Kd.byte.C w ok A bs) (hm : bs.length = m) (c : Nat) :
    (convert 26 9 (.slice A m c)).run Try.prog w = .ok (.string (strOf bs)) w := run_conv (e := 5) h hm (by kernel_rfl) (by kernel_rfl) (by kernel_rfl)
end Go.Proofs.Ytmahjeafoogamaa
