/- What field.Text and field.Flag lay. -/
import Derived.Test.YtmahjeafoogamaaFieldNum
import Derived.Lib.AppendStr
namespace Go.Proofs.Ytmahjeafoogamaa
open Go.RowKit
set_option linter.unusedVariables false
/-- A text's bytes. -/
def strB (s : ByteArray) : List UInt8 := s.data.toList
theorem strB_len (s : ByteArray) : (strB s).length = s.size := by simp [strB]
theorem strCells_eq (s : ByteArray) : Lib.strCells s = (strB s).map encB := rfl
section
variable {ops : Array Oper} {rest : List Oper} {o : Oper} {a : Act} {Q : Exit → Act → World → Prop} {w : World}
/-- append(v, text...) -/
theorem wp_appS (hgd : o.guard = none) (s x : Operand) (ho : o.op = .call { callee := .builtin .append, args := #[s, x], argTypes := #[26, 9] })
    (base : Nat) (ok : Nat → Prop) (v : Value) (xs : List UInt8) (t : ByteArray) (hs : a.eval s = v) (hx : a.eval x = .string t)
    (hr : Kd.byte.R 5 w base ok v xs) (hbase : base ≤ w.heap.size) (len : Nat) (hlen : xs.length + t.size = len) (hl : len ≤ 100000000000)
    (h : ∀ A' c' w', Kd.byte.R 5 w' base (fun k => some k = (Value.slice A' len c').ownBlock) (.slice A' len c') (xs ++ strB t) → Chg (fun k => some k = v.ownBlock) w w' → wpList Try.prog ops Q rest (a.put o.dst (.slice A' len c')) w') :
    wpList Try.prog ops Q (o :: rest) a w := by
  obtain ⟨i, hi, hzz⟩ := Option.map_eq_some_iff.1 u8_info
  simp only [Prod.mk.injEq] at hzz
  obtain ⟨hz0, hz1, hz2⟩ := hzz
  refine Lib.wpList_append_own_string (P := Try.prog) w hgd s x 26 9 ho base 5 i Try.underlying26 Try.underlying9 hi hz0 hz1 hz2 v xs.length (xs.map encB) hs (Kd.own_of_R hr) t hx (by unfold maxLen; omega) (by omega) hbase ?_
  intro v' w' hown hg _
  rw [strCells_eq, ← List.map_append] at hown
  have hR : Kd.byte.R 5 w' base (fun k => some k = v'.ownBlock) v' (xs ++ strB t) := Kd.R_of_own hown
  obtain ⟨A', c', hv, _⟩ := Kd.R_slice' hR (m := len) (by rw [List.length_append, strB_len]; exact hlen)
  subst hv
  exact h A' c' w' hR ⟨hg.os, hg.tape, hg.output, hg.size, fun k hk hne => hg.block k hk hne⟩
end
theorem Laid.slice {w w' : World} {l : List UInt8} {e : Ending} (h : Laid w l e w') : ∃ A c, e = .returned (.slice A l.length c) ∧ l.length ≤ c ∧ Kd.byte.R 5 w' w.heap.size (fun b => w.heap.size ≤ b) (.slice A l.length c) l ∧ Chg nob w w' := by
  obtain ⟨v, he, hR, hc⟩ := h
  obtain ⟨A, c, rfl, hl⟩ := Kd.R_slice hR
  exact ⟨A, c, he, hl, hR, hc⟩
set_option maxHeartbeats 1000000 in
theorem field_flag {w : World} {ok : Nat → Prop} {A : Option Addr} {m c : Nat} {bs : List UInt8} (hb : Kd.byte.C w ok A bs) (hm : bs.length = m) (hm2 : m ≤ 1000000000) (is : Bool) :
    Calls Try.prog 43 #[.slice A m c, .bool is] w (Laid w (bs ++ numB (if is then 1 else 0))) := by
  cases is
  · go_enter Try.func43, Try.ntmps43
    go_wp2_with fail
    refine (field_num hb hm hm2 0 (by omega) (by omega)).mono ?_
    intro e w1 hL
    have HE := Lib.hid hL
    obtain ⟨v, rfl, _⟩ := hL
    go_wp2
    go_ret
    exact HE.out
  · go_enter Try.func43, Try.ntmps43
    go_wp2_with fail
    refine (field_num hb hm hm2 1 (by omega) (by omega)).mono ?_
    intro e w1 hL
    have HE := Lib.hid hL
    obtain ⟨v, rfl, _⟩ := hL
    go_wp2
    go_ret
    exact HE.out
def txtB (s : ByteArray) : List UInt8 := numB s.size ++ strB s
end Go.Proofs.Ytmahjeafoogamaa
