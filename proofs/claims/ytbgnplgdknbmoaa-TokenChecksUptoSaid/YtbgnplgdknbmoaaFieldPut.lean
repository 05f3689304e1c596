/- What field.Text and field.Flag lay. -/
import Derived.Test.YtbgnplgdknbmoaaFieldNum
import Derived.Lib.AppendStr
namespace Go.Proofs.Ytbgnplgdknbmoaa
open Go.RowKit
set_option linter.unusedVariables false
/-- A text's bytes. -/
def strB (s : ByteArray) : List UInt8 := s.data.toList
theorem strB_len (s : ByteArray) : (strB s).length = s.size := by simp [strB]
theorem strCells_eq (s : ByteArray) : Lib.strCells s = (strB s).map encB := rfl
section
variable {ops : Array Oper} {rest : List Oper} {o : Oper} {a : Act} {Q : Exit → Act → World → Prop} {w : World}
/-- append(v, text...) -/
theorem wp_appS (hgd : o.guard = none) (s x : Operand) (ho : o.op = .call { callee := .builtin .append, args := #[s, x], argTypes := #[27, 9] })
    (base : Nat) (ok : Nat → Prop) (v : Value) (xs : List UInt8) (t : ByteArray) (hs : a.eval s = v) (hx : a.eval x = .string t)
    (hr : Kd.byte.R 5 w base ok v xs) (hbase : base ≤ w.heap.size) (len : Nat) (hlen : xs.length + t.size = len) (hl : len ≤ 100000000000)
    (h : ∀ A' c' w', Kd.byte.R 5 w' base (fun k => some k = (Value.slice A' len c').ownBlock) (.slice A' len c') (xs ++ strB t) → Chg (fun k => some k = v.ownBlock) w w' → wpList Try.prog ops Q rest (a.put o.dst (.slice A' len c')) w') :
    wpList Try.prog ops Q (o :: rest) a w := by
  obtain ⟨i, hi, hzz⟩ := Option.map_eq_some_iff.1 u8_info
  simp only [Prod.mk.injEq] at hzz
  obtain ⟨hz0, hz1, hz2⟩ := hzz
  refine Lib.wpList_append_own_string (P := Try.prog) w hgd s x 27 9 ho base 5 i Try.underlying27 Try.underlying9 hi hz0 hz1 hz2 v xs.length (xs.map encB) hs (Kd.own_of_R hr) t hx (by unfold maxLen; omega) (by omega) hbase ?_
  intro v' w' hown hg _
  rw [strCells_eq, ← List.map_append] at hown
  have hR : Kd.byte.R 5 w' base (fun k => some k = v'.ownBlock) v' (xs ++ strB t) := Kd.R_of_own hown
  obtain ⟨A', c', hv, _⟩ := Kd.R_slice' hR (m := len) (by rw [List.length_append, strB_len]; exact hlen)
  subst hv
  exact h A' c' w' hR ⟨hg.os, hg.tape, hg.output, hg.size, fun k hk hne => hg.block k hk hne⟩
end
theorem Laid.slice {w w' : World} {l : List UInt8} {e : Ending} (h : Laid w l e w') : ∃ A c, e = .returned (.slice A l.length c) ∧ l.length ≤ c ∧ Kd.byte.R 5 w' w.heap.size (fun b => w.heap.size ≤ b) (.slice A l.length c) l ∧ Chg nob w w' := by
  obtain ⟨v, he, hR, hc⟩ := h
  obtain ⟨A, c, rfl, hl⟩ := Kd.R_slice hR
  exact ⟨A, c, he, hl, hR, hc⟩
set_option maxHeartbeats 1000000 in
theorem field_text {w : World} {ok : Nat → Prop} {A : Option Addr} {m c : Nat} {bs : List UInt8} (hb : Kd.byte.C w ok A bs) (hm : bs.length = m) (hm2 : m ≤ 1000000000) (s : ByteArray) (hs : s.size ≤ 1000000000) :
    Calls Try.prog 17 #[.slice A m c, .string s] w (Laid w (bs ++ (numB s.size ++ strB s))) := by
  have HM := Lib.hid hm
  clear hm
  have hnl := numB_len (n := s.size) (by omega)
  go_enter Try.func17, Try.ntmps17
  go_wp2_with fail
  refine (field_num hb HM.out hm2 _ (by omega) (by omega)).mono ?_
  intro e w1 hL
  obtain ⟨A1, c1, rfl, hl1, hR, hC⟩ := hL.slice
  rw [show ((s.size : Nat) : Int).toNat = s.size from Int.toNat_natCast _] at hR ⊢
  have hln : (bs ++ numB s.size).length = m + (numB s.size).length := by rw [List.length_append, HM.out]
  generalize hq : (bs ++ numB s.size).length = q at hR ⊢
  have hq2 : q = m + (numB s.size).length := by rw [← hq]; exact hln
  have HQ := Lib.hid hq
  have hq3 : q ≤ 2000000000 := by omega
  clear hq hln hl1 hL hb hq2
  have s1 := hC.size
  go_wp2_with (at_builtin; refine wp_appS rfl _ _ rfl w.heap.size (fun b => w.heap.size ≤ b) (.slice A1 q c1) (bs ++ numB s.size) s rfl rfl hR s1 (q + s.size) ?_ ?_ ?_)
  · rw [HQ.out]
  · omega
  intro A2 c2 w2 hR2 hC2
  have HE : Hid (Laid w (bs ++ (numB s.size ++ strB s)) (.returned (.slice A2 (q + s.size) c2)) w2) := by
    refine ⟨_, rfl, ?_, hC.trans hC2 (fun b hb => .inr (Kd.R_own hR b hb.symm).1)⟩
    exact Kd.R_ge Kd.scalar_flat hR2
  clear hR2 hC2 hR
  go_wp2
  go_ret
  exact HE.out
def txtB (s : ByteArray) : List UInt8 := numB s.size ++ strB s
end Go.Proofs.Ytbgnplgdknbmoaa
