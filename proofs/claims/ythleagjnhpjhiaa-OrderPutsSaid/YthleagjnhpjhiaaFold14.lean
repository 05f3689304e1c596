import Derived.Test.YthleagjnhpjhiaaFold10
import Derived.Test.YthleagjnhpjhiaaFold13
/- Orders: a command's bytes: what each field lays. -/
namespace Go.Proofs.Ythleagjnhpjhiaa
open Go.RowKit
set_option linter.unusedVariables false
set_option linter.unusedSimpArgs false
set_option maxRecDepth 100000
class Lays (α : Type) where
  lay : α → List UInt8
section
variable {α : Type} [Lays α]
/-- A field's bytes. -/
def fldB (x : Cm α) (k : Nat) : List UInt8 := match k with
  | 0 => numB x.node.toNat
  | 1 => numB x.port.toNat
  | 2 => numB x.status.toNat
  | 3 => txtB x.id
  | 4 => txtB x.name
  | 5 => txtB x.service
  | 6 => txtB x.remark
  | 7 => txtB x.key
  | 8 => txtB x.value
  | 9 => txtB x.src
  | 10 => txtB x.dst
  | 11 => listB txtB x.tags
  | 12 => numB (if x.allow then 1 else 0)
  | 13 => numB x.old.toNat
  | 14 => numB x.session.toNat
  | _ => Lays.lay x.subs
def ifB (x : Cm α) (k : Nat) : List UInt8 := if bitN (hasN x.kind) k then fldB x k else []
def layTo (x : Cm α) (j : Nat) : List UInt8 := numB x.kind.toNat ++ ((List.range j).map (ifB x)).flatten
/-- A command's bytes. -/
def layB (x : Cm α) : List UInt8 := layTo x 16
theorem layTo_succ (x : Cm α) (j : Nat) : layTo x (j + 1) = layTo x j ++ ifB x j := by
  unfold layTo
  rw [List.range_succ, List.map_append, List.flatten_append, ← List.append_assoc]
  simp
theorem layTo_yes {x : Cm α} {j : Nat} (h : bitN (hasN x.kind) j = true) : layTo x (j + 1) = layTo x j ++ fldB x j := by rw [layTo_succ, ifB, if_pos h]
theorem layTo_no {x : Cm α} {j : Nat} (h : bitN (hasN x.kind) j = false) : layTo x (j + 1) = layTo x j := by rw [layTo_succ, ifB, if_neg (by rw [h]; decide), List.append_nil]
end
theorem txtB_le80 {s : ByteArray} (h : s.size ≤ 80) : (txtB s).length ≤ 89 := by
  unfold txtB
  rw [List.length_append, strB_len]
  have := numB_len (n := s.size) (by omega)
  omega
theorem listT_le {l : List ByteArray} (h : ∀ s ∈ l, s.size ≤ 80) (hl : l.length ≤ 8) : (listB txtB l).length ≤ 800 := by
  have h1 : ∀ l : List ByteArray, (∀ s ∈ l, s.size ≤ 80) → ((l.map txtB).flatten).length ≤ l.length * 89 := by
    intro l
    induction l with
    | nil => intro _; simp
    | cons s l ih =>
      intro h
      have h2 := ih (fun s hs => h s (List.mem_cons_of_mem _ hs))
      have h3 := txtB_le80 (h s (List.mem_cons_self ..))
      simp only [List.map_cons, List.flatten_cons, List.length_append, List.length_cons]
      omega
  unfold listB
  rw [List.length_append]
  have := h1 l h
  have := numB_len (n := l.length) (by omega)
  omega
theorem tagsOk_all {l : List ByteArray} (h : tagsOk l = true) : ∀ s ∈ l, s.size ≤ 80 := by
  unfold tagsOk at h
  rw [List.all_eq_true] at h
  exact fun s hs => of_decide_eq_true (h s hs)
theorem txtOk_le {s : ByteArray} (h : txtOk s = true) : s.size ≤ 80 := by
  have := of_decide_eq_true h
  omega
theorem numOk_le {n : Int} (h : numOk n = true) : 0 ≤ n ∧ n ≤ 65535 := by
  unfold numOk at h
  rw [Bool.and_eq_true] at h
  exact ⟨of_decide_eq_true h.1, of_decide_eq_true h.2⟩
section
variable {α : Type} [Lays α]
/-- The commands within have few bytes. -/
def FewB (x : Cm α) : Prop := (Lays.lay x.subs).length ≤ 200000
variable [Sz α]
theorem fldB_le {x : Cm α} (ho : CmOk x) (hf : FewB x) {k : Nat} (hk : k < 16) (h : mayF x k = true) : (fldB x k).length ≤ 200000 := by
  have hk2 : k = 0 ∨ k = 1 ∨ k = 2 ∨ k = 3 ∨ k = 4 ∨ k = 5 ∨ k = 6 ∨ k = 7 ∨ k = 8 ∨ k = 9 ∨ k = 10 ∨ k = 11 ∨ k = 12 ∨ k = 13 ∨ k = 14 ∨ k = 15 := by omega
  rcases hk2 with rfl | rfl | rfl | rfl | rfl | rfl | rfl | rfl | rfl | rfl | rfl | rfl | rfl | rfl | rfl | rfl
  · have := numOk_le h; have := numB_len (n := x.node.toNat) (by omega); show (numB _).length ≤ _; omega
  · have := numOk_le h; have := numB_len (n := x.port.toNat) (by omega); show (numB _).length ≤ _; omega
  · have := numOk_le h; have := numB_len (n := x.status.toNat) (by omega); show (numB _).length ≤ _; omega
  · have := txtB_le80 (txtOk_le h); show (txtB _).length ≤ _; omega
  · have := txtB_le80 (txtOk_le h); show (txtB _).length ≤ _; omega
  · have := txtB_le80 (txtOk_le h); show (txtB _).length ≤ _; omega
  · have := txtB_le80 (txtOk_le h); show (txtB _).length ≤ _; omega
  · have := txtB_le80 (txtOk_le h); show (txtB _).length ≤ _; omega
  · have := txtB_le80 (txtOk_le h); show (txtB _).length ≤ _; omega
  · have := txtB_le80 (txtOk_le h); show (txtB _).length ≤ _; omega
  · have := txtB_le80 (txtOk_le h); show (txtB _).length ≤ _; omega
  · have h2 : (tagsOk x.tags && decide (x.tags.length ≤ 8)) = true := h
    rw [Bool.and_eq_true] at h2
    have := listT_le (tagsOk_all h2.1) (of_decide_eq_true h2.2)
    show (listB _ _).length ≤ _
    omega
  · show (numB _).length ≤ _
    have := numB_len (n := if x.allow then 1 else 0) (by split <;> omega)
    omega
  · have := ho.old; have := numB_len (n := x.old.toNat) (by omega); show (numB _).length ≤ _; omega
  · have := ho.session; have := numB_len (n := x.session.toNat) (by omega); show (numB _).length ≤ _; omega
  · exact hf
theorem layTo_le {x : Cm α} (ho : CmOk x) (hf : FewB x) (hr : rightB x = true) {L : Nat} (hL : L = 200000) (j : Nat) : j ≤ 16 → (layTo x j).length ≤ 9 + j * L := by
  induction j with
  | zero =>
    intro _
    have h1 := ho.kind
    have h2 := numB_len (n := x.kind.toNat) (by omega)
    have h3 : layTo x 0 = numB x.kind.toNat := by unfold layTo; simp
    rw [h3]
    omega
  | succ j ih =>
    intro hj
    have ih := ih (by omega)
    have hm : fieldOk x j = true := by
      unfold rightB okTo at hr
      rw [Bool.and_eq_true, List.all_eq_true] at hr
      exact hr.2 j (List.mem_range.2 (by omega))
    have hl := fldB_le ho hf (k := j) (by omega) (by unfold fieldOk at hm; rw [Bool.and_eq_true] at hm; exact hm.2)
    rw [← hL] at hl
    rw [layTo_succ, List.length_append, ifB, Nat.add_mul, Nat.one_mul]
    split
    · omega
    · rw [List.length_nil]; omega
end
section
variable {w : World} {p : Nat} {ok : Nat → Prop} {B : Option Addr} {m c : Nat} {bs : List UInt8}
theorem c_num_lay {cb o : Nat} {n : Int} (hb : PtrBox w p ⟨cb, o, none⟩) (hv : w.cell? ⟨cb, o, none⟩ = some (.int .i64 n)) (h0 : 0 ≤ n) (h1 : n ≤ 65535) (hB : Kd.byte.C w ok B bs) (hm : bs.length = m) (hm2 : m ≤ 1000000000) : Calls Try.prog 52 #[.slice B m c, .pointer (some ⟨p, 0, none⟩)] w (Laid w (bs ++ numB n.toNat)) := by
  have hp := hb.cell
  have hw : IntKind.u64.wrap n = n := by rw [IntKind.wrap_u64]; omega
  have H := Lib.hid (field_num (c := c) hB hm hm2 n h0 (by omega))
  clear hB hm hm2 hb
  go_enter Try.func52, Try.ntmps52
  go_wp2_with fail
  refine H.out.mono ?_
  intro e1 w1 hL
  have HE := Lib.hid hL
  obtain ⟨v, rfl, _⟩ := hL
  go_wp2
  go_ret
  exact HE.out
theorem c_text_lay {cb o : Nat} {s : ByteArray} (hb : PtrBox w p ⟨cb, o, none⟩) (hv : w.cell? ⟨cb, o, none⟩ = some (.string s)) (h1 : s.size ≤ 80) (hB : Kd.byte.C w ok B bs) (hm : bs.length = m) (hm2 : m ≤ 1000000000) : Calls Try.prog 56 #[.slice B m c, .pointer (some ⟨p, 0, none⟩)] w (Laid w (bs ++ txtB s)) := by
  have hp := hb.cell
  unfold txtB
  have H := Lib.hid (field_text (c := c) hB hm hm2 s (by omega))
  clear hB hm hm2 hb
  go_enter Try.func56, Try.ntmps56
  go_wp2_with fail
  refine H.out.mono ?_
  intro e1 w1 hL
  have HE := Lib.hid hL
  obtain ⟨v, rfl, _⟩ := hL
  go_wp2
  go_ret
  exact HE.out
theorem c_texts_lay {cb o : Nat} {ok2 : Nat → Prop} {T : Option Addr} {l : List ByteArray} {d e : Nat} (hb : PtrBox w p ⟨cb, o, none⟩) (hv : w.cell? ⟨cb, o, none⟩ = some (.slice T d e)) (hT : strK.C w ok2 T l) (hd : l.length = d) (hB : Kd.byte.C w ok B bs) (hm : bs.length = m) (hsz : (bs ++ listB txtB l).length ≤ 1000000000) : Calls Try.prog 62 #[.slice B m c, .pointer (some ⟨p, 0, none⟩)] w (Laid w (bs ++ listB txtB l)) := by
  have hp := hb.cell
  have H := Lib.hid (field_texts (c := c) hB hm hT hd hsz e)
  clear hB hm hb hT hd hsz
  go_enter Try.func62, Try.ntmps62
  go_wp2_with fail
  refine H.out.mono ?_
  intro e1 w1 hL
  have HE := Lib.hid hL
  obtain ⟨v, rfl, _⟩ := hL
  go_wp2
  go_ret
  exact HE.out
theorem c_flag_lay {cb o : Nat} {b : Bool} (hb : PtrBox w p ⟨cb, o, none⟩) (hv : w.cell? ⟨cb, o, none⟩ = some (.bool b)) (hB : Kd.byte.C w ok B bs) (hm : bs.length = m) (hm2 : m ≤ 1000000000) : Calls Try.prog 68 #[.slice B m c, .pointer (some ⟨p, 0, none⟩)] w (Laid w (bs ++ numB (if b then 1 else 0))) := by
  have hp := hb.cell
  have hff := field_flag (c := c) hB hm hm2 b
  obtain ⟨N, hN⟩ : ∃ N, numB (if b then 1 else 0) = N := ⟨_, rfl⟩
  rw [hN] at hff ⊢
  have H := Lib.hid hff
  clear hff hN
  clear hB hm hm2 hb
  go_enter Try.func68, Try.ntmps68
  go_wp2_with fail
  refine H.out.mono ?_
  intro e1 w1 hL
  have HE := Lib.hid hL
  obtain ⟨v, rfl, _⟩ := hL
  go_wp2
  go_ret
  exact HE.out
theorem c_long_lay {cb o : Nat} {n : Int} (hb : PtrBox w p ⟨cb, o, none⟩) (hv : w.cell? ⟨cb, o, none⟩ = some (.int .u64 n)) (h0 : 0 ≤ n) (h1 : n < 18446744073709551616) (hB : Kd.byte.C w ok B bs) (hm : bs.length = m) (hm2 : m ≤ 1000000000) : Calls Try.prog 74 #[.slice B m c, .pointer (some ⟨p, 0, none⟩)] w (Laid w (bs ++ numB n.toNat)) := by
  have hp := hb.cell
  have H := Lib.hid (field_num (c := c) hB hm hm2 n h0 h1)
  clear hB hm hm2 hb
  go_enter Try.func74, Try.ntmps74
  go_wp2_with fail
  refine H.out.mono ?_
  intro e1 w1 hL
  have HE := Lib.hid hL
  obtain ⟨v, rfl, _⟩ := hL
  go_wp2
  go_ret
  exact HE.out
end
section
variable {α : Type} [Sz α] [Lays α] {d : Kd α} {w : World} {ok : Nat → Prop} {cb p k : Nat} {x : Cm α}
/-- What the commands within lay. -/
def SubLay (M : Nat) (d : Kd α) (w : World) (ok : Nat → Prop) (x : Cm α) : Prop := ∀ (wx : World) (p cb : Nat) (okb : Nat → Prop) (B : Option Addr) (m c : Nat) (bs : List UInt8), Chg nob w wx → PtrBox wx p ⟨cb, 16, none⟩ → CmRow d wx ok cb x → bitN (hasN x.kind) 15 = true → mayF x 15 = true → Kd.byte.C wx okb B bs → bs.length = m → m ≤ M → Calls Try.prog 78 #[.slice B m c, .pointer (some ⟨p, 0, none⟩)] wx (Laid wx (bs ++ fldB x 15))
theorem c_lay {wx : World} {okb : Nat → Prop} {B : Option Addr} {m c : Nat} {bs : List UInt8} {M : Nat} (hM : M ≤ 100000000) (hs : SubLay M d w ok x) (hw : Chg nob w wx) (h : CmRow d wx ok cb x) (hb : PtrBox wx p ⟨cb, k + 1, none⟩) (hk : k < 16) (hbit : bitN (hasN x.kind) k = true) (hm : mayF x k = true) (hB : Kd.byte.C wx okb B bs) (hbm : bs.length = m) (hm2 : m ≤ M) :
    Calls Try.prog (fnN k 0) (#[.slice B m c] ++ capN k 0 p) wx (Laid wx (bs ++ fldB x k)) := by
  obtain ⟨T, tc, A, n, c', hc, hn, hT, ho, -⟩ := h.cell
  have hm3 : m ≤ 1000000000 := by omega
  have hk2 : k = 0 ∨ k = 1 ∨ k = 2 ∨ k = 3 ∨ k = 4 ∨ k = 5 ∨ k = 6 ∨ k = 7 ∨ k = 8 ∨ k = 9 ∨ k = 10 ∨ k = 11 ∨ k = 12 ∨ k = 13 ∨ k = 14 ∨ k = 15 := by omega
  rcases hk2 with rfl | rfl | rfl | rfl | rfl | rfl | rfl | rfl | rfl | rfl | rfl | rfl | rfl | rfl | rfl | rfl
  · exact c_num_lay hb (hc 1) (numOk_le hm).1 (numOk_le hm).2 hB hbm hm3
  · exact c_num_lay hb (hc 2) (numOk_le hm).1 (numOk_le hm).2 hB hbm hm3
  · exact c_num_lay hb (hc 3) (numOk_le hm).1 (numOk_le hm).2 hB hbm hm3
  · exact c_text_lay hb (hc 4) (txtOk_le hm) hB hbm hm3
  · exact c_text_lay hb (hc 5) (txtOk_le hm) hB hbm hm3
  · exact c_text_lay hb (hc 6) (txtOk_le hm) hB hbm hm3
  · exact c_text_lay hb (hc 7) (txtOk_le hm) hB hbm hm3
  · exact c_text_lay hb (hc 8) (txtOk_le hm) hB hbm hm3
  · exact c_text_lay hb (hc 9) (txtOk_le hm) hB hbm hm3
  · exact c_text_lay hb (hc 10) (txtOk_le hm) hB hbm hm3
  · exact c_text_lay hb (hc 11) (txtOk_le hm) hB hbm hm3
  · have h2 : (tagsOk x.tags && decide (x.tags.length ≤ 8)) = true := hm
    rw [Bool.and_eq_true] at h2
    have h3 := listT_le (tagsOk_all h2.1) (of_decide_eq_true h2.2)
    exact c_texts_lay hb (hc 12) (str_le.C hT) rfl hB hbm (by rw [List.length_append]; omega)
  · exact c_flag_lay hb (hc 13) hB hbm hm3
  · exact c_long_lay hb (hc 14) ho.old.1 ho.old.2 hB hbm hm3
  · exact c_long_lay hb (hc 15) ho.session.1 ho.session.2 hB hbm hm3
  · exact hs wx p cb okb B m c bs hw hb h hbit hm hB hbm hm2
end
end Go.Proofs.Ythleagjnhpjhiaa
