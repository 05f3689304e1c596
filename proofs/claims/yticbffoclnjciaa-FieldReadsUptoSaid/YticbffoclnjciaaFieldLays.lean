/- The law FieldLays: the walk. -/
import Derived.Test.YticbffoclnjciaaFieldList
import Derived.Test.YticbffoclnjciaaTab
namespace Go.Proofs.Yticbffoclnjciaa
open Go.RowKit
set_option linter.unusedVariables false
theorem Laid.new {w0 w w' : World} {l : List UInt8} {e : Ending} (h : Laid w0 l e w) (hc : Chg nob w w') : Laid w0 l e w' := by
  obtain ⟨v, rfl, hR, hC⟩ := h
  exact ⟨v, rfl, Kd.R_new hR hc, hC.thenNew hc⟩
theorem Laid.back {w0 w w' : World} {l : List UInt8} {e : Ending} (h : Laid w l e w') (hc : Chg nob w0 w) : Laid w0 l e w' := by
  obtain ⟨v, rfl, hR, hC⟩ := h
  have := hc.size
  exact Laid.of hR this (hc.thenNew hC)
theorem laid_step {w0 w w' : World} {l : List UInt8} {e : Ending} (hc : Chg nob w0 w) (h : Laid w l e w') : ∃ v, e = .returned v ∧ Chg nob w w' ∧ (freshS Kd.byte 5 w0 l).is v w' := by
  obtain ⟨v, rfl, hR, hC⟩ := h
  have := hc.size
  exact ⟨v, rfl, hC, byte_ge (Kd.R_lower hR this)⟩
theorem listB_le {α : Type} (f : α → List UInt8) (h : ∀ x, 1 ≤ (f x).length) (l : List α) : l.length ≤ (listB f l).length := by
  have : ∀ l : List α, l.length ≤ (l.map f).flatten.length := by
    intro l
    induction l with
    | nil => simp
    | cons x l ih =>
      simp only [List.map_cons, List.flatten_cons, List.length_append, List.length_cons]
      have := h x
      omega
  have := this l
  unfold listB
  rw [List.length_append]
  omega
theorem txtB_pos (x : ByteArray) : 1 ≤ (txtB x).length := by
  have : (numB x.size).length = (leB x.size).length + 1 := by simp [numB]
  rw [txtB, List.length_append]
  omega
theorem numX_pos (x : Int) : 1 ≤ (numX x).length := by simp [numX, numB]
def fieldLays_tab (w0 : World) (g : Nat) (bs : List UInt8) (A : Option Addr) (m c : Nat) (n : Int) (s : ByteArray) (fl : Bool) (B1 : Option Addr) (d1 e1 : Nat) (B2 : Option Addr) (d2 e2 : Nat) (ts : List ByteArray) (ns : List Int) : Nat → Spec := fun d => ([
  .val (.slice A m c),
  .val (.int .u64 n),
  .val undef,
  .val undef,
  .val undef,
  .val (.pointer (some ⟨g, 0, none⟩)),
  .val (.bool true),
  .val (.string (strOf bs)),
  .val undef,
  .val undef,
  .val (.slice A m c),
  .val (.int .u64 n),
  freshS Kd.byte 5 w0 (bs ++ numB n.toNat),
  .val (.string (strOf (bs ++ numB n.toNat))),
  .val (.string (strOf bs)),
  .val (.int .u64 n),
  freshS Kd.byte 5 w0 (numB n.toNat),
  .val (.string (strOf (numB n.toNat))),
  .val (.string (strOf bs ++ (strOf (numB n.toNat)))),
  .val (.bool false),
  .val (.bool false),
  .val (.slice A m c),
  .val (.pointer (some ⟨g, 0, none⟩)),
  .val (.string s),
  freshS Kd.byte 5 w0 (bs ++ (numB s.size ++ strB s)),
  .val (.string (strOf (bs ++ (numB s.size ++ strB s)))),
  .val (.string (strOf bs)),
  .val (.pointer (some ⟨g, 0, none⟩)),
  .val (.string s),
  freshS Kd.byte 5 w0 (numB s.size ++ strB s),
  .val (.string (strOf (numB s.size ++ strB s))),
  .val (.string (strOf bs ++ (strOf (numB s.size ++ strB s)))),
  .val (.bool false),
  .val (.bool false),
  .val (.bool false),
  .val (.slice A m c),
  .val (.pointer (some ⟨g, 1, none⟩)),
  .val (.bool fl),
  freshS Kd.byte 5 w0 (bs ++ numB (if fl then 1 else 0)),
  .val (.string (strOf (bs ++ numB (if fl then 1 else 0)))),
  .val (.string (strOf bs)),
  .val (.pointer (some ⟨g, 1, none⟩)),
  .val (.bool fl),
  freshS Kd.byte 5 w0 (numB (if fl then 1 else 0)),
  .val (.string (strOf (numB (if fl then 1 else 0)))),
  .val (.string (strOf bs ++ (strOf (numB (if fl then 1 else 0))))),
  .val (.bool false),
  .val (.bool false),
  .val (.slice A m c),
  .val (.pointer (some ⟨g, 2, none⟩)),
  .val (.slice B1 d1 e1),
  freshS Kd.byte 5 w0 (bs ++ listB txtB ts),
  .val (.string (strOf (bs ++ listB txtB ts))),
  .val (.string (strOf bs)),
  .val (.pointer (some ⟨g, 2, none⟩)),
  .val (.slice B1 d1 e1),
  freshS Kd.byte 5 w0 (listB txtB ts),
  .val (.string (strOf (listB txtB ts))),
  .val (.string (strOf bs ++ (strOf (listB txtB ts)))),
  .val (.bool true),
  .val (.bool true),
  .val (.slice A m c),
  .val (.pointer (some ⟨g, 3, none⟩)),
  .val (.slice B2 d2 e2),
  freshS Kd.byte 5 w0 (bs ++ listB numX ns),
  .val (.string (strOf (bs ++ listB numX ns))),
  .val (.string (strOf bs)),
  .val (.pointer (some ⟨g, 3, none⟩)),
  .val (.slice B2 d2 e2),
  freshS Kd.byte 5 w0 (listB numX ns),
  .val (.string (strOf (listB numX ns))),
  .val (.string (strOf bs ++ (strOf (listB numX ns)))),
  .val (.bool true),
  .val (.bool true),
  .val (.bool true),
  .val (.bool true),
  .val (.bool true)] : List Spec).getD d (.val undef)
theorem field_works (w : World) : Calls Try.prog 18 #[] w fun e w' => e = .returned (.bool true) ∧ Chg nob w w' := by
  go_enter Try.func18, Try.ntmps18
  go_wp2_with fail
  refine (field_num (Kd.C_nil _ _ (fun _ => False) none) rfl (Nat.zero_le _) 300 (by omega) (by omega)).mono ?_
  intro e w1 hL
  obtain ⟨A1, c1, rfl, hl1, hR, hC⟩ := hL.slice
  rw [show ([] ++ numB (300 : Int).toNat : List UInt8) = [2, 1, 44] from by simp [numB, leB]] at hR ⊢
  have hcv := run_conv (P := Try.prog) (src := 22) (dst := 9) (e := 5) (c := c1) (m := 3) (Kd.R_read hR).1 rfl (by kernel_rfl) (by kernel_rfl) (by kernel_rfl)
  go_wp2
  rw [strOf_list]
  go_ret
  exact ⟨rfl, hC⟩
set_option maxRecDepth 100000 in
set_option maxHeartbeats 4000000 in
theorem fieldLays_walk {w : World} {A : Option Addr} {m c : Nat} {bs : List UInt8} (hb : Kd.byte.C w (fun b => b < w.heap.size) A bs) (hm : bs.length = m) (n : Int) (h0 : 0 ≤ n) (h1 : n < 18446744073709551616)
    (s : ByteArray) (fl : Bool) {B1 B2 : Option Addr} {d1 e1 d2 e2 : Nat} {ts : List ByteArray} {ns : List Int} (ht : Kd.string.C w (fun b => b < w.heap.size) B1 ts) (hn : (Kd.int .u64).C w (fun b => b < w.heap.size) B2 ns) (hd1 : ts.length = d1) (hd2 : ns.length = d2)
    (hns : ∀ x ∈ ns, 0 ≤ x ∧ x < 18446744073709551616)
    (hs : bs.length + s.size + (listB txtB ts).length + (listB numX ns).length ≤ 500000000) :
    Calls Try.prog 3 #[.slice A m c, .int .u64 n, .agg #[.string s, .bool fl, .slice B1 d1 e1, .slice B2 d2 e2]] w fun e w' => e = .returned (.bool true) ∧ Chg nob w w' := by
  have hcv := run_conv (P := Try.prog) (src := 22) (dst := 9) (e := 5) (c := c) (Kd.C_new hb (((Chg.refl nob w).alloc (.cells #[.string s, .bool fl, .slice B1 d1 e1, .slice B2 d2 e2] 27)))) hm (by kernel_rfl) (by kernel_rfl) (by kernel_rfl)
  have hml : m ≤ 1000000000 := by omega
  have hsl : s.size ≤ 1000000000 := by omega
  have l1 := listB_le txtB txtB_pos ts
  have l2 := listB_le numX numX_pos ns
  have htl : (bs ++ listB txtB ts).length ≤ 1000000000 := by rw [List.length_append]; omega
  have htl2 : (listB txtB ts).length ≤ 1000000000 := by omega
  have hnl : (bs ++ listB numX ns).length ≤ 1000000000 := by rw [List.length_append]; omega
  have hnl2 : (listB numX ns).length ≤ 1000000000 := by omega
  have hd1l : d1 ≤ 1000000000 := by omega
  have hd2l : d2 ≤ 1000000000 := by omega
  have n1 := numB_len (n := n.toNat) (by omega)
  have n2 := numB_len (n := s.size) (by omega)
  have n3 := numB_len (n := if fl then 1 else 0) (by split <;> omega)
  have z18 : bs.length + (numB n.toNat).length ≤ 9223372036854775807 := by omega
  have z31 : bs.length + (numB s.size ++ strB s).length ≤ 9223372036854775807 := by rw [List.length_append, strB_len]; omega
  have z45 : bs.length + (numB (if fl then 1 else 0)).length ≤ 9223372036854775807 := by omega
  have z58 : bs.length + (listB txtB ts).length ≤ 9223372036854775807 := by omega
  have z71 : bs.length + (listB numX ns).length ≤ 9223372036854775807 := by omega
  go_enter Try.func3, Try.ntmps3
  go_wp2_with fail
  clear hcv
  obtain ⟨w1, hw1⟩ : ∃ w1, w1 = w.alloc (.cells #[.string s, .bool fl, .slice B1 d1 e1, .slice B2 d2 e2] 27) := ⟨_, rfl⟩
  have h0c : Chg nob w w1 := by rw [hw1]; exact (Chg.refl _ _).alloc _
  have hcell : ∀ wx, Chg nob w1 wx → wx.cell? ⟨w.heap.size, 0, none⟩ = some (.string s) ∧ wx.cell? ⟨w.heap.size, 1, none⟩ = some (.bool fl) ∧ wx.cell? ⟨w.heap.size, 2, none⟩ = some (.slice B1 d1 e1) ∧ wx.cell? ⟨w.heap.size, 3, none⟩ = some (.slice B2 d2 e2) := by
    intro wx hc
    have h9 : w1.heap[w.heap.size]? = some (.cells #[.string s, .bool fl, .slice B1 d1 e1, .slice B2 d2 e2] 27) := by rw [hw1]; exact heap_alloc_new w _
    have h9 := hc.heap h9 (not_nob _)
    refine ⟨?_, ?_, ?_, ?_⟩ <;> simp [World.cell?, h9]
  rw [← hw1]
  clear hw1
  obtain ⟨g, hg⟩ : ∃ g, g = w.heap.size := ⟨_, rfl⟩
  rw [← hg] at hcell ⊢
  clear hg
  refine wp_region_tab (w0 := w1) (fieldLays_tab w1 g bs A m c n s fl B1 d1 e1 B2 d2 e2 ts ns) [10, 11, 12, 13, 14, 15, 16, 17, 18, 19, 20, 21, 22, 23, 24, 25, 26, 27, 28, 29, 30, 31, 32, 33, 34, 35, 36, 37, 38, 39, 40, 41, 42, 43, 44, 45, 46, 47] [0, 1, 5, 7] (by kernel_rfl) (by kernel_rfl) (by kernel_rfl) (by kernel_rfl) ⟨rfl, rfl, rfl, rfl, trivial⟩ ?_ ?_
  · refine ⟨?_, ?_, ?_, ?_, ?_, ?_, ?_, ?_, ?_, ?_, ?_, ?_, ?_, ?_, ?_, ?_, ?_, ?_, ?_, ?_, ?_, ?_, ?_, ?_, ?_, ?_, ?_, ?_, ?_, ?_, ?_, ?_, ?_, ?_, ?_, ?_, ?_, ?_, trivial⟩
    · exact TabStep.move (s := 0) (by kernel_rfl) rfl rfl rfl rfl (by kernel_rfl)   -- slot 10 Op.move t0
    · exact TabStep.move (s := 1) (by kernel_rfl) rfl rfl rfl rfl (by kernel_rfl)   -- slot 11 Op.move t1
    · refine TabStep.call (by kernel_rfl) rfl (fun a w hc hk => ⟨8, #[.slice A m c, .int .u64 n], ?_, ?_⟩)   -- slot 12 Op.call { value (Operand.func 8), args := #[t10, t11], argTy
      have t10 := look_val (s := 10) hk rfl (by kernel_rfl)
      have t11 := look_val (s := 11) hk rfl (by kernel_rfl)
      · go_simp
      · refine (field_num (Kd.C_new hb (h0c.thenNew hc)) hm hml n h0 h1).mono ?_
        exact fun e w' hL => laid_step hc hL
    · exact TabStep.conv (s := 12) (e := 5) (by kernel_rfl) rfl rfl rfl rfl (by kernel_rfl) (by kernel_rfl) (by kernel_rfl) (by kernel_rfl)   -- slot 13 Op.convert 22 9 t12
    · exact TabStep.move (s := 7) (by kernel_rfl) rfl rfl rfl rfl (by kernel_rfl)   -- slot 14 Op.move t7
    · exact TabStep.move (s := 1) (by kernel_rfl) rfl rfl rfl rfl (by kernel_rfl)   -- slot 15 Op.move t1
    · refine TabStep.call (by kernel_rfl) rfl (fun a w hc hk => ⟨9, #[.int .u64 n], ?_, ?_⟩)   -- slot 16 Op.call { value (Operand.func 9), args := #[t15], argTypes :
      have t15 := look_val (s := 15) hk rfl (by kernel_rfl)
      · go_simp
      · refine (ref_num n h0 h1).mono ?_
        exact fun e w' hL => laid_step hc hL
    · exact TabStep.conv (s := 16) (e := 5) (by kernel_rfl) rfl rfl rfl rfl (by kernel_rfl) (by kernel_rfl) (by kernel_rfl) (by kernel_rfl)   -- slot 17 Op.convert 22 9 t16
    · exact TabStep.sadd (x := 14) (y := 17) (by kernel_rfl) rfl rfl rfl rfl rfl (by kernel_rfl) (by kernel_rfl) (by rw [strOf_size, strOf_size]; exact z18)   -- slot 18 Op.binOp BinOp.add 9 t14 t17 9
    · exact TabStep.sneq (x := 13) (y := 18) (by kernel_rfl) rfl rfl rfl rfl rfl (by kernel_rfl) (by kernel_rfl) (by rw [← strOf_append])   -- slot 19 Op.binOp BinOp.neq 9 t13 t18 9
    · exact TabStep.move (s := 19) (by kernel_rfl) rfl rfl rfl rfl (by kernel_rfl)   -- slot 20 Op.move t19
    · exact TabStep.move (s := 0) (by kernel_rfl) rfl rfl rfl rfl (by kernel_rfl)   -- slot 21 Op.move t0
    · refine TabStep.val (by kernel_rfl) rfl rfl (fun a w hc hk => ?_)   -- slot 22 Op.fieldAddr 27 t5 0
      have t5 := look_val (s := 5) hk rfl (by kernel_rfl)
      go_simp
    · refine TabStep.val (by kernel_rfl) rfl rfl (fun a w hc hk => ?_)   -- slot 23 Op.load 9 t22
      have t22 := look_val (s := 22) hk rfl (by kernel_rfl)
      have hcl := (hcell w hc).1
      go_simp
    · refine TabStep.call (by kernel_rfl) rfl (fun a w hc hk => ⟨10, #[.slice A m c, .string s], ?_, ?_⟩)   -- slot 24 Op.call { value (Operand.func 10), args := #[t21, t23], argT
      have t21 := look_val (s := 21) hk rfl (by kernel_rfl)
      have t23 := look_val (s := 23) hk rfl (by kernel_rfl)
      · go_simp
      · refine (field_text (Kd.C_new hb (h0c.thenNew hc)) hm hml s hsl).mono ?_
        exact fun e w' hL => laid_step hc hL
    · exact TabStep.conv (s := 24) (e := 5) (by kernel_rfl) rfl rfl rfl rfl (by kernel_rfl) (by kernel_rfl) (by kernel_rfl) (by kernel_rfl)   -- slot 25 Op.convert 22 9 t24
    · exact TabStep.move (s := 7) (by kernel_rfl) rfl rfl rfl rfl (by kernel_rfl)   -- slot 26 Op.move t7
    · refine TabStep.val (by kernel_rfl) rfl rfl (fun a w hc hk => ?_)   -- slot 27 Op.fieldAddr 27 t5 0
      have t5 := look_val (s := 5) hk rfl (by kernel_rfl)
      go_simp
    · refine TabStep.val (by kernel_rfl) rfl rfl (fun a w hc hk => ?_)   -- slot 28 Op.load 9 t27
      have t27 := look_val (s := 27) hk rfl (by kernel_rfl)
      have hcl := (hcell w hc).1
      go_simp
    · refine TabStep.call (by kernel_rfl) rfl (fun a w hc hk => ⟨11, #[.string s], ?_, ?_⟩)   -- slot 29 Op.call { value (Operand.func 11), args := #[t28], argTypes 
      have t28 := look_val (s := 28) hk rfl (by kernel_rfl)
      · go_simp
      · refine (ref_text s hsl).mono ?_
        exact fun e w' hL => laid_step hc hL
    · exact TabStep.conv (s := 29) (e := 5) (by kernel_rfl) rfl rfl rfl rfl (by kernel_rfl) (by kernel_rfl) (by kernel_rfl) (by kernel_rfl)   -- slot 30 Op.convert 22 9 t29
    · exact TabStep.sadd (x := 26) (y := 30) (by kernel_rfl) rfl rfl rfl rfl rfl (by kernel_rfl) (by kernel_rfl) (by rw [strOf_size, strOf_size]; exact z31)   -- slot 31 Op.binOp BinOp.add 9 t26 t30 9
    · exact TabStep.sneq (x := 25) (y := 31) (by kernel_rfl) rfl rfl rfl rfl rfl (by kernel_rfl) (by kernel_rfl) (by rw [← strOf_append])   -- slot 32 Op.binOp BinOp.neq 9 t25 t31 9
    · refine TabStep.val (by kernel_rfl) rfl rfl (fun a w hc hk => ?_)   -- slot 33 Op.pick t20 (const (Value.bool true)) t32
      have t20 := look_val (s := 20) hk rfl (by kernel_rfl)
      have t32 := look_val (s := 32) hk rfl (by kernel_rfl)
      go_simp
    · exact TabStep.move (s := 33) (by kernel_rfl) rfl rfl rfl rfl (by kernel_rfl)   -- slot 34 Op.move t33
    · exact TabStep.move (s := 0) (by kernel_rfl) rfl rfl rfl rfl (by kernel_rfl)   -- slot 35 Op.move t0
    · refine TabStep.val (by kernel_rfl) rfl rfl (fun a w hc hk => ?_)   -- slot 36 Op.fieldAddr 27 t5 1
      have t5 := look_val (s := 5) hk rfl (by kernel_rfl)
      go_simp
    · refine TabStep.val (by kernel_rfl) rfl rfl (fun a w hc hk => ?_)   -- slot 37 Op.load 4 t36
      have t36 := look_val (s := 36) hk rfl (by kernel_rfl)
      have hcl := (hcell w hc).2.1
      go_simp
    · refine TabStep.call (by kernel_rfl) rfl (fun a w hc hk => ⟨12, #[.slice A m c, .bool fl], ?_, ?_⟩)   -- slot 38 Op.call { value (Operand.func 12), args := #[t35, t37], argT
      have t35 := look_val (s := 35) hk rfl (by kernel_rfl)
      have t37 := look_val (s := 37) hk rfl (by kernel_rfl)
      · go_simp
      · refine (field_flag (Kd.C_new hb (h0c.thenNew hc)) hm hml fl).mono ?_
        exact fun e w' hL => laid_step hc hL
    · exact TabStep.conv (s := 38) (e := 5) (by kernel_rfl) rfl rfl rfl rfl (by kernel_rfl) (by kernel_rfl) (by kernel_rfl) (by kernel_rfl)   -- slot 39 Op.convert 22 9 t38
    · exact TabStep.move (s := 7) (by kernel_rfl) rfl rfl rfl rfl (by kernel_rfl)   -- slot 40 Op.move t7
    · refine TabStep.val (by kernel_rfl) rfl rfl (fun a w hc hk => ?_)   -- slot 41 Op.fieldAddr 27 t5 1
      have t5 := look_val (s := 5) hk rfl (by kernel_rfl)
      go_simp
    · refine TabStep.val (by kernel_rfl) rfl rfl (fun a w hc hk => ?_)   -- slot 42 Op.load 4 t41
      have t41 := look_val (s := 41) hk rfl (by kernel_rfl)
      have hcl := (hcell w hc).2.1
      go_simp
    · refine TabStep.call (by kernel_rfl) rfl (fun a w hc hk => ⟨13, #[.bool fl], ?_, ?_⟩)   -- slot 43 Op.call { value (Operand.func 13), args := #[t42], argTypes 
      have t42 := look_val (s := 42) hk rfl (by kernel_rfl)
      · go_simp
      · refine (ref_flag fl).mono ?_
        exact fun e w' hL => laid_step hc hL
    · exact TabStep.conv (s := 43) (e := 5) (by kernel_rfl) rfl rfl rfl rfl (by kernel_rfl) (by kernel_rfl) (by kernel_rfl) (by kernel_rfl)   -- slot 44 Op.convert 22 9 t43
    · exact TabStep.sadd (x := 40) (y := 44) (by kernel_rfl) rfl rfl rfl rfl rfl (by kernel_rfl) (by kernel_rfl) (by rw [strOf_size, strOf_size]; exact z45)   -- slot 45 Op.binOp BinOp.add 9 t40 t44 9
    · exact TabStep.sneq (x := 39) (y := 45) (by kernel_rfl) rfl rfl rfl rfl rfl (by kernel_rfl) (by kernel_rfl) (by rw [← strOf_append])   -- slot 46 Op.binOp BinOp.neq 9 t39 t45 9
    · refine TabStep.val (by kernel_rfl) rfl rfl (fun a w hc hk => ?_)   -- slot 47 Op.pick t34 (const (Value.bool true)) t46
      have t34 := look_val (s := 34) hk rfl (by kernel_rfl)
      have t46 := look_val (s := 46) hk rfl (by kernel_rfl)
      go_simp
  intro u w2 h2 hu
  have u47 : u 47 = .bool false := hu 47 (by kernel_rfl)
  clear hu
  rw [show fillT _ u [10, 11, 12, 13, 14, 15, 16, 17, 18, 19, 20, 21, 22, 23, 24, 25, 26, 27, 28, 29, 30, 31, 32, 33, 34, 35, 36, 37, 38, 39, 40, 41, 42, 43, 44, 45, 46, 47] = (#[.slice A m c, .int .u64 n, .agg #[.string s, .bool fl, .slice B1 d1 e1, .slice B2 d2 e2], undef, undef, .pointer (some ⟨g, 0, none⟩), .bool false, .string (strOf bs), .slice A m c, .string (strOf bs), u 10, u 11, u 12, u 13, u 14, u 15, u 16, u 17, u 18, u 19, u 20, u 21, u 22, u 23, u 24, u 25, u 26, u 27, u 28, u 29, u 30, u 31, u 32, u 33, u 34, u 35, u 36, u 37, u 38, u 39, u 40, u 41, u 42, u 43, u 44, u 45, u 46, u 47, undef, undef, undef, undef, undef, undef, undef, undef, undef, undef, undef, undef, undef, undef, undef, undef, undef, undef, undef, undef, undef, undef, undef, undef, undef, undef, undef, undef, undef] : Array Value) from by kernel_rfl, u47]
  go_wp2_with fail
  have h0c := h0c.thenNew h2
  have hcell := fun wx (hc : Chg nob w2 wx) => hcell wx (h2.thenNew hc)
  refine wp_region_tab (w0 := w2) (fieldLays_tab w2 g bs A m c n s fl B1 d1 e1 B2 d2 e2 ts ns) [48, 49, 50, 51, 52, 53, 54, 55, 56, 57, 58, 59, 60, 61, 62, 63, 64, 65, 66, 67, 68, 69, 70, 71, 72, 73, 74, 75, 76, 6] [0, 5, 7] (by kernel_rfl) (by kernel_rfl) (by kernel_rfl) (by kernel_rfl) ⟨rfl, rfl, rfl, trivial⟩ ?_ ?_
  · refine ⟨?_, ?_, ?_, ?_, ?_, ?_, ?_, ?_, ?_, ?_, ?_, ?_, ?_, ?_, ?_, ?_, ?_, ?_, ?_, ?_, ?_, ?_, ?_, ?_, ?_, ?_, ?_, ?_, ?_, ?_, trivial⟩
    · exact TabStep.move (s := 0) (by kernel_rfl) rfl rfl rfl rfl (by kernel_rfl)   -- slot 48 Op.move t0
    · refine TabStep.val (by kernel_rfl) rfl rfl (fun a w hc hk => ?_)   -- slot 49 Op.fieldAddr 27 t5 2
      have t5 := look_val (s := 5) hk rfl (by kernel_rfl)
      go_simp
    · refine TabStep.val (by kernel_rfl) rfl rfl (fun a w hc hk => ?_)   -- slot 50 Op.load 24 t49
      have t49 := look_val (s := 49) hk rfl (by kernel_rfl)
      have hcl := (hcell w hc).2.2.1
      go_simp
    · refine TabStep.call (by kernel_rfl) rfl (fun a w hc hk => ⟨14, #[.slice A m c, .slice B1 d1 e1], ?_, ?_⟩)   -- slot 51 Op.call { value (Operand.func 14), args := #[t48, t50], argT
      have t48 := look_val (s := 48) hk rfl (by kernel_rfl)
      have t50 := look_val (s := 50) hk rfl (by kernel_rfl)
      · go_simp
      · refine (field_texts (Kd.C_new hb (h0c.thenNew hc)) hm (Kd.C_new ht (h0c.thenNew hc)) hd1 htl _).mono ?_
        exact fun e w' hL => laid_step hc hL
    · exact TabStep.conv (s := 51) (e := 5) (by kernel_rfl) rfl rfl rfl rfl (by kernel_rfl) (by kernel_rfl) (by kernel_rfl) (by kernel_rfl)   -- slot 52 Op.convert 22 9 t51
    · exact TabStep.move (s := 7) (by kernel_rfl) rfl rfl rfl rfl (by kernel_rfl)   -- slot 53 Op.move t7
    · refine TabStep.val (by kernel_rfl) rfl rfl (fun a w hc hk => ?_)   -- slot 54 Op.fieldAddr 27 t5 2
      have t5 := look_val (s := 5) hk rfl (by kernel_rfl)
      go_simp
    · refine TabStep.val (by kernel_rfl) rfl rfl (fun a w hc hk => ?_)   -- slot 55 Op.load 24 t54
      have t54 := look_val (s := 54) hk rfl (by kernel_rfl)
      have hcl := (hcell w hc).2.2.1
      go_simp
    · refine TabStep.call (by kernel_rfl) rfl (fun a w hc hk => ⟨15, #[.slice B1 d1 e1], ?_, ?_⟩)   -- slot 56 Op.call { value (Operand.func 15), args := #[t55], argTypes 
      have t55 := look_val (s := 55) hk rfl (by kernel_rfl)
      · go_simp
      · refine (ref_texts (Kd.C_new ht (h0c.thenNew hc)) hd1 htl2 hd1l _).mono ?_
        exact fun e w' hL => laid_step hc hL
    · exact TabStep.conv (s := 56) (e := 5) (by kernel_rfl) rfl rfl rfl rfl (by kernel_rfl) (by kernel_rfl) (by kernel_rfl) (by kernel_rfl)   -- slot 57 Op.convert 22 9 t56
    · exact TabStep.sadd (x := 53) (y := 57) (by kernel_rfl) rfl rfl rfl rfl rfl (by kernel_rfl) (by kernel_rfl) (by rw [strOf_size, strOf_size]; exact z58)   -- slot 58 Op.binOp BinOp.add 9 t53 t57 9
    · exact TabStep.seql (x := 52) (y := 58) (by kernel_rfl) rfl rfl rfl rfl rfl (by kernel_rfl) (by kernel_rfl) (by rw [← strOf_append])   -- slot 59 Op.binOp BinOp.eql 9 t52 t58 9
    · exact TabStep.move (s := 59) (by kernel_rfl) rfl rfl rfl rfl (by kernel_rfl)   -- slot 60 Op.move t59
    · exact TabStep.move (s := 0) (by kernel_rfl) rfl rfl rfl rfl (by kernel_rfl)   -- slot 61 Op.move t0
    · refine TabStep.val (by kernel_rfl) rfl rfl (fun a w hc hk => ?_)   -- slot 62 Op.fieldAddr 27 t5 3
      have t5 := look_val (s := 5) hk rfl (by kernel_rfl)
      go_simp
    · refine TabStep.val (by kernel_rfl) rfl rfl (fun a w hc hk => ?_)   -- slot 63 Op.load 25 t62
      have t62 := look_val (s := 62) hk rfl (by kernel_rfl)
      have hcl := (hcell w hc).2.2.2
      go_simp
    · refine TabStep.call (by kernel_rfl) rfl (fun a w hc hk => ⟨16, #[.slice A m c, .slice B2 d2 e2], ?_, ?_⟩)   -- slot 64 Op.call { value (Operand.func 16), args := #[t61, t63], argT
      have t61 := look_val (s := 61) hk rfl (by kernel_rfl)
      have t63 := look_val (s := 63) hk rfl (by kernel_rfl)
      · go_simp
      · refine (field_nums (Kd.C_new hb (h0c.thenNew hc)) hm (Kd.C_new hn (h0c.thenNew hc)) hd2 hns hnl _).mono ?_
        exact fun e w' hL => laid_step hc hL
    · exact TabStep.conv (s := 64) (e := 5) (by kernel_rfl) rfl rfl rfl rfl (by kernel_rfl) (by kernel_rfl) (by kernel_rfl) (by kernel_rfl)   -- slot 65 Op.convert 22 9 t64
    · exact TabStep.move (s := 7) (by kernel_rfl) rfl rfl rfl rfl (by kernel_rfl)   -- slot 66 Op.move t7
    · refine TabStep.val (by kernel_rfl) rfl rfl (fun a w hc hk => ?_)   -- slot 67 Op.fieldAddr 27 t5 3
      have t5 := look_val (s := 5) hk rfl (by kernel_rfl)
      go_simp
    · refine TabStep.val (by kernel_rfl) rfl rfl (fun a w hc hk => ?_)   -- slot 68 Op.load 25 t67
      have t67 := look_val (s := 67) hk rfl (by kernel_rfl)
      have hcl := (hcell w hc).2.2.2
      go_simp
    · refine TabStep.call (by kernel_rfl) rfl (fun a w hc hk => ⟨17, #[.slice B2 d2 e2], ?_, ?_⟩)   -- slot 69 Op.call { value (Operand.func 17), args := #[t68], argTypes 
      have t68 := look_val (s := 68) hk rfl (by kernel_rfl)
      · go_simp
      · refine (ref_nums (Kd.C_new hn (h0c.thenNew hc)) hd2 hns hnl2 hd2l _).mono ?_
        exact fun e w' hL => laid_step hc hL
    · exact TabStep.conv (s := 69) (e := 5) (by kernel_rfl) rfl rfl rfl rfl (by kernel_rfl) (by kernel_rfl) (by kernel_rfl) (by kernel_rfl)   -- slot 70 Op.convert 22 9 t69
    · exact TabStep.sadd (x := 66) (y := 70) (by kernel_rfl) rfl rfl rfl rfl rfl (by kernel_rfl) (by kernel_rfl) (by rw [strOf_size, strOf_size]; exact z71)   -- slot 71 Op.binOp BinOp.add 9 t66 t70 9
    · exact TabStep.seql (x := 65) (y := 71) (by kernel_rfl) rfl rfl rfl rfl rfl (by kernel_rfl) (by kernel_rfl) (by rw [← strOf_append])   -- slot 72 Op.binOp BinOp.eql 9 t65 t71 9
    · refine TabStep.val (by kernel_rfl) rfl rfl (fun a w hc hk => ?_)   -- slot 73 Op.pick t60 t72 (const (Value.bool false))
      have t60 := look_val (s := 60) hk rfl (by kernel_rfl)
      have t72 := look_val (s := 72) hk rfl (by kernel_rfl)
      go_simp
    · exact TabStep.move (s := 73) (by kernel_rfl) rfl rfl rfl rfl (by kernel_rfl)   -- slot 74 Op.move t73
    · refine TabStep.call (by kernel_rfl) rfl (fun a w hc hk => ⟨18, #[], ?_, ?_⟩)   -- slot 75 Op.call { value (Operand.func 18), args := #[], argTypes := 
      · go_simp
      · refine (field_works w).mono ?_
        exact fun e w' ⟨he, hC⟩ => ⟨_, he, hC, rfl⟩
    · refine TabStep.val (by kernel_rfl) rfl rfl (fun a w hc hk => ?_)   -- slot 76 Op.pick t74 t75 (const (Value.bool false))
      have t74 := look_val (s := 74) hk rfl (by kernel_rfl)
      have t75 := look_val (s := 75) hk rfl (by kernel_rfl)
      go_simp
    · exact TabStep.assign (s := 76) (by kernel_rfl) rfl rfl rfl rfl (by kernel_rfl)   -- slot 6 Op.assign t76
  intro u' w3 h3 hu'
  have u6 : u' 6 = .bool true := hu' 6 (by kernel_rfl)
  clear hu'
  rw [show fillT _ u' [48, 49, 50, 51, 52, 53, 54, 55, 56, 57, 58, 59, 60, 61, 62, 63, 64, 65, 66, 67, 68, 69, 70, 71, 72, 73, 74, 75, 76, 6] = (#[.slice A m c, .int .u64 n, .agg #[.string s, .bool fl, .slice B1 d1 e1, .slice B2 d2 e2], undef, undef, .pointer (some ⟨g, 0, none⟩), u' 6, .string (strOf bs), .slice A m c, .string (strOf bs), u 10, u 11, u 12, u 13, u 14, u 15, u 16, u 17, u 18, u 19, u 20, u 21, u 22, u 23, u 24, u 25, u 26, u 27, u 28, u 29, u 30, u 31, u 32, u 33, u 34, u 35, u 36, u 37, u 38, u 39, u 40, u 41, u 42, u 43, u 44, u 45, u 46, .bool false, u' 48, u' 49, u' 50, u' 51, u' 52, u' 53, u' 54, u' 55, u' 56, u' 57, u' 58, u' 59, u' 60, u' 61, u' 62, u' 63, u' 64, u' 65, u' 66, u' 67, u' 68, u' 69, u' 70, u' 71, u' 72, u' 73, u' 74, u' 75, u' 76] : Array Value) from by kernel_rfl, u6]
  have h0c := h0c.thenNew h3
  go_wp2
  go_ret
  exact ⟨rfl, h0c⟩
end Go.Proofs.Yticbffoclnjciaa
