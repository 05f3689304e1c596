/- The reference's Same of lists of flat elements: equal lists. -/
import Derived.Test.YtkclceghhebfaaaApi
import Derived.Laws.StructEq
namespace Go.Proofs.Ytkclceghhebfaaa
open Go.RowKit
set_option linter.unusedVariables false
set_option linter.unusedSimpArgs false
def chkV (x : Chk) : Array Value := #[.int .i64 x.1, .string x.2.1, .string x.2.2.1, .string x.2.2.2.1, .int .i64 x.2.2.2.2.1, .int .u64 x.2.2.2.2.2.1, .int .u64 x.2.2.2.2.2.2]
theorem chk_cells {w : World} {ok : Nat → Prop} {x : Chk} {cs : List Value} (h : chkK.K w ok x cs) : cs = (chkV x).toList := by
  obtain ⟨c0, _, e, h0, c1, _, rfl, h1, c2, _, rfl, h2, c3, _, rfl, h3, c4, _, rfl, h4, c5, c6, rfl, h5, h6⟩ := h
  have h0' : c0 = [.int .i64 x.1] := h0
  have h1' : c1 = [.string x.2.1] := h1
  have h2' : c2 = [.string x.2.2.1] := h2
  have h3' : c3 = [.string x.2.2.2.1] := h3
  have h4' : c4 = [.int .i64 x.2.2.2.2.1] := h4
  have h5' : c5 = [.int .u64 x.2.2.2.2.2.1] := h5
  have h6' : c6 = [.int .u64 x.2.2.2.2.2.2] := h6
  subst h0' h1' h2' h3' h4' h5' h6'
  exact e
theorem neq_chk (x : Chk) (w : World) : (binOp .neq 80 (.agg (chkV x)) (.agg (chkV x))).run Try.prog w = .ok (.bool false) w := by
  have u1 := Try.underlying9
  have u2 := Try.underlying3
  have u3 := Try.underlying4
  have u4 := Try.underlying22
  obtain ⟨a0, a1, a2, a3, a4, a5, a6⟩ := x
  unfold chkV
  rw [run_neq_struct]
  rw [show (10000 : Nat) = 9999 + 1 from rfl]
  rw [run_equalIn_agg w 9999 _ _ _ (by kernel_rfl) (by kernel_rfl)]
  simp only [Program.fieldsOf, Try.underlying80]
  go_simp
set_option maxHeartbeats 1000000 in
theorem r_sameC {w : World} {okA okB : Nat → Prop} {A B : Option Addr} {n ca cb : Nat} {l : List Chk} (h : chkK.C w okA A l) (k : chkK.C w okB B l) (hn : l.length = n) :
    Calls Try.prog 18 #[.slice A n ca, .slice B n cb] w fun e w' => e = .returned (.bool true) ∧ Chg nob w w' := by
  have hsm := h.small
  rw [hn] at hsm
  have HN := Lib.hid hn
  have HA := Lib.hid h
  have HB := Lib.hid k
  have HC0 := Lib.hid (Chg.refl nob w)
  clear hn h k
  go_enter Try.func18, Try.ntmps18
  go_wp2
  go_loopw [5] (fun i wr => ∃ j : Nat, j ≤ n ∧ i = .int .i64 j ∧ Hid (Chg nob w wr)) (fun i _ => n - (intOf i).toNat)
  case atStart => exact ⟨0, Nat.zero_le _, rfl, HC0⟩
  case round =>
    obtain ⟨j, hj, rfl, HC⟩ := hrel
    clear HC0
    by_cases hlt : j < n
    · have b1 : (j : Int) < (n : Int) := by omega
      have b3 : (0 : Int) ≤ (j : Int) := by omega
      obtain ⟨x, hx⟩ : ∃ x, l[j]? = some x := ⟨_, List.getElem?_eq_getElem (by rw [HN.out]; exact hlt)⟩
      obtain ⟨ab, ao, c1, rfl, _, hka, hca⟩ := Kd.C_at' (Kd.C_new HA.out HC.out) hx
      obtain ⟨bb, bo, c2, rfl, _, hkb, hcb⟩ := Kd.C_at' (Kd.C_new HB.out HC.out) hx
      obtain rfl := chk_cells hka
      obtain rfl := chk_cells hkb
      have p0 : wr.cell? ⟨ab, ao + j * 7, none⟩ = some (.int .i64 x.1) := hca 0 _ rfl
      have q0 : wr.cell? ⟨bb, bo + j * 7, none⟩ = some (.int .i64 x.1) := hcb 0 _ rfl
      have p1 : wr.cell? ⟨ab, ao + j * 7 + 1, none⟩ = some (.string x.2.1) := hca 1 _ rfl
      have q1 : wr.cell? ⟨bb, bo + j * 7 + 1, none⟩ = some (.string x.2.1) := hcb 1 _ rfl
      have p2 : wr.cell? ⟨ab, ao + j * 7 + 2, none⟩ = some (.string x.2.2.1) := hca 2 _ rfl
      have q2 : wr.cell? ⟨bb, bo + j * 7 + 2, none⟩ = some (.string x.2.2.1) := hcb 2 _ rfl
      have p3 : wr.cell? ⟨ab, ao + j * 7 + 3, none⟩ = some (.string x.2.2.2.1) := hca 3 _ rfl
      have q3 : wr.cell? ⟨bb, bo + j * 7 + 3, none⟩ = some (.string x.2.2.2.1) := hcb 3 _ rfl
      have p4 : wr.cell? ⟨ab, ao + j * 7 + 4, none⟩ = some (.int .i64 x.2.2.2.2.1) := hca 4 _ rfl
      have q4 : wr.cell? ⟨bb, bo + j * 7 + 4, none⟩ = some (.int .i64 x.2.2.2.2.1) := hcb 4 _ rfl
      have p5 : wr.cell? ⟨ab, ao + j * 7 + 5, none⟩ = some (.int .u64 x.2.2.2.2.2.1) := hca 5 _ rfl
      have q5 : wr.cell? ⟨bb, bo + j * 7 + 5, none⟩ = some (.int .u64 x.2.2.2.2.2.1) := hcb 5 _ rfl
      have p6 : wr.cell? ⟨ab, ao + j * 7 + 6, none⟩ = some (.int .u64 x.2.2.2.2.2.2) := hca 6 _ rfl
      have q6 : wr.cell? ⟨bb, bo + j * 7 + 6, none⟩ = some (.int .u64 x.2.2.2.2.2.2) := hcb 6 _ rfl
      have hneq : ∀ wx : World, (binOp .neq 80 (.agg #[.int .i64 x.1, .string x.2.1, .string x.2.2.1, .string x.2.2.2.1, .int .i64 x.2.2.2.2.1, .int .u64 x.2.2.2.2.2.1, .int .u64 x.2.2.2.2.2.2]) (.agg #[.int .i64 x.1, .string x.2.1, .string x.2.2.1, .string x.2.2.2.1, .int .i64 x.2.2.2.2.1, .int .u64 x.2.2.2.2.2.1, .int .u64 x.2.2.2.2.2.2])).run Try.prog wx = .ok (.bool false) wx := neq_chk x
      clear hx hka hkb hca hcb
      go_wp2
      go_quiet (fail)
      have HCD := Lib.hid (HC.out.thenNew ((Chg.refl nob wr).drewN nq))
      go_wp2
      exact ⟨⟨j + 1, hlt, by go_num, HCD⟩, by simp [intOf]; omega⟩
    · obtain rfl : j = n := by omega
      have b1 : ¬ (j : Int) < (j : Int) := by omega
      go_wp2
      go_ret
      exact ⟨rfl, HC.out⟩
def nodV (x : Nod) : Array Value := #[.int .i64 x.1, .string x.2.1, .int .u64 x.2.2.1, .int .u64 x.2.2.2]
theorem nod_cells {w : World} {ok : Nat → Prop} {x : Nod} {cs : List Value} (h : nodK.K w ok x cs) : cs = (nodV x).toList := by
  obtain ⟨c0, _, e, h0, c1, _, rfl, h1, c2, c3, rfl, h2, h3⟩ := h
  have h0' : c0 = [.int .i64 x.1] := h0
  have h1' : c1 = [.string x.2.1] := h1
  have h2' : c2 = [.int .u64 x.2.2.1] := h2
  have h3' : c3 = [.int .u64 x.2.2.2] := h3
  subst h0' h1' h2' h3'
  exact e
theorem neq_nod (x : Nod) (w : World) : (binOp .neq 42 (.agg (nodV x)) (.agg (nodV x))).run Try.prog w = .ok (.bool false) w := by
  have u1 := Try.underlying9
  have u2 := Try.underlying3
  have u3 := Try.underlying4
  have u4 := Try.underlying22
  obtain ⟨a0, a1, a2, a3⟩ := x
  unfold nodV
  rw [run_neq_struct]
  rw [show (10000 : Nat) = 9999 + 1 from rfl]
  rw [run_equalIn_agg w 9999 _ _ _ (by kernel_rfl) (by kernel_rfl)]
  simp only [Program.fieldsOf, Try.underlying42]
  go_simp
set_option maxHeartbeats 1000000 in
theorem r_sameN {w : World} {okA okB : Nat → Prop} {A B : Option Addr} {n ca cb : Nat} {l : List Nod} (h : nodK.C w okA A l) (k : nodK.C w okB B l) (hn : l.length = n) :
    Calls Try.prog 19 #[.slice A n ca, .slice B n cb] w fun e w' => e = .returned (.bool true) ∧ Chg nob w w' := by
  have hsm := h.small
  rw [hn] at hsm
  have HN := Lib.hid hn
  have HA := Lib.hid h
  have HB := Lib.hid k
  have HC0 := Lib.hid (Chg.refl nob w)
  clear hn h k
  go_enter Try.func19, Try.ntmps19
  go_wp2
  go_loopw [5] (fun i wr => ∃ j : Nat, j ≤ n ∧ i = .int .i64 j ∧ Hid (Chg nob w wr)) (fun i _ => n - (intOf i).toNat)
  case atStart => exact ⟨0, Nat.zero_le _, rfl, HC0⟩
  case round =>
    obtain ⟨j, hj, rfl, HC⟩ := hrel
    clear HC0
    by_cases hlt : j < n
    · have b1 : (j : Int) < (n : Int) := by omega
      have b3 : (0 : Int) ≤ (j : Int) := by omega
      obtain ⟨x, hx⟩ : ∃ x, l[j]? = some x := ⟨_, List.getElem?_eq_getElem (by rw [HN.out]; exact hlt)⟩
      obtain ⟨ab, ao, c1, rfl, _, hka, hca⟩ := Kd.C_at' (Kd.C_new HA.out HC.out) hx
      obtain ⟨bb, bo, c2, rfl, _, hkb, hcb⟩ := Kd.C_at' (Kd.C_new HB.out HC.out) hx
      obtain rfl := nod_cells hka
      obtain rfl := nod_cells hkb
      have p0 : wr.cell? ⟨ab, ao + j * 4, none⟩ = some (.int .i64 x.1) := hca 0 _ rfl
      have q0 : wr.cell? ⟨bb, bo + j * 4, none⟩ = some (.int .i64 x.1) := hcb 0 _ rfl
      have p1 : wr.cell? ⟨ab, ao + j * 4 + 1, none⟩ = some (.string x.2.1) := hca 1 _ rfl
      have q1 : wr.cell? ⟨bb, bo + j * 4 + 1, none⟩ = some (.string x.2.1) := hcb 1 _ rfl
      have p2 : wr.cell? ⟨ab, ao + j * 4 + 2, none⟩ = some (.int .u64 x.2.2.1) := hca 2 _ rfl
      have q2 : wr.cell? ⟨bb, bo + j * 4 + 2, none⟩ = some (.int .u64 x.2.2.1) := hcb 2 _ rfl
      have p3 : wr.cell? ⟨ab, ao + j * 4 + 3, none⟩ = some (.int .u64 x.2.2.2) := hca 3 _ rfl
      have q3 : wr.cell? ⟨bb, bo + j * 4 + 3, none⟩ = some (.int .u64 x.2.2.2) := hcb 3 _ rfl
      have hneq : ∀ wx : World, (binOp .neq 42 (.agg #[.int .i64 x.1, .string x.2.1, .int .u64 x.2.2.1, .int .u64 x.2.2.2]) (.agg #[.int .i64 x.1, .string x.2.1, .int .u64 x.2.2.1, .int .u64 x.2.2.2])).run Try.prog wx = .ok (.bool false) wx := neq_nod x
      clear hx hka hkb hca hcb
      go_wp2
      go_quiet (fail)
      have HCD := Lib.hid (HC.out.thenNew ((Chg.refl nob wr).drewN nq))
      go_wp2
      exact ⟨⟨j + 1, hlt, by go_num, HCD⟩, by simp [intOf]; omega⟩
    · obtain rfl : j = n := by omega
      have b1 : ¬ (j : Int) < (j : Int) := by omega
      go_wp2
      go_ret
      exact ⟨rfl, HC.out⟩
def entV (x : Ent) : Array Value := #[.string x.1, .string x.2.1, .int .u64 x.2.2.1, .int .u64 x.2.2.2.1, .int .u64 x.2.2.2.2.1, .int .u64 x.2.2.2.2.2]
theorem ent_cells {w : World} {ok : Nat → Prop} {x : Ent} {cs : List Value} (h : entK.K w ok x cs) : cs = (entV x).toList := by
  obtain ⟨c0, _, e, h0, c1, _, rfl, h1, c2, _, rfl, h2, c3, _, rfl, h3, c4, c5, rfl, h4, h5⟩ := h
  have h0' : c0 = [.string x.1] := h0
  have h1' : c1 = [.string x.2.1] := h1
  have h2' : c2 = [.int .u64 x.2.2.1] := h2
  have h3' : c3 = [.int .u64 x.2.2.2.1] := h3
  have h4' : c4 = [.int .u64 x.2.2.2.2.1] := h4
  have h5' : c5 = [.int .u64 x.2.2.2.2.2] := h5
  subst h0' h1' h2' h3' h4' h5'
  exact e
theorem neq_ent (x : Ent) (w : World) : (binOp .neq 49 (.agg (entV x)) (.agg (entV x))).run Try.prog w = .ok (.bool false) w := by
  have u1 := Try.underlying9
  have u2 := Try.underlying3
  have u3 := Try.underlying4
  have u4 := Try.underlying22
  obtain ⟨a0, a1, a2, a3, a4, a5⟩ := x
  unfold entV
  rw [run_neq_struct]
  rw [show (10000 : Nat) = 9999 + 1 from rfl]
  rw [run_equalIn_agg w 9999 _ _ _ (by kernel_rfl) (by kernel_rfl)]
  simp only [Program.fieldsOf, Try.underlying49]
  go_simp
set_option maxHeartbeats 1000000 in
theorem r_sameE {w : World} {okA okB : Nat → Prop} {A B : Option Addr} {n ca cb : Nat} {l : List Ent} (h : entK.C w okA A l) (k : entK.C w okB B l) (hn : l.length = n) :
    Calls Try.prog 20 #[.slice A n ca, .slice B n cb] w fun e w' => e = .returned (.bool true) ∧ Chg nob w w' := by
  have hsm := h.small
  rw [hn] at hsm
  have HN := Lib.hid hn
  have HA := Lib.hid h
  have HB := Lib.hid k
  have HC0 := Lib.hid (Chg.refl nob w)
  clear hn h k
  go_enter Try.func20, Try.ntmps20
  go_wp2
  go_loopw [5] (fun i wr => ∃ j : Nat, j ≤ n ∧ i = .int .i64 j ∧ Hid (Chg nob w wr)) (fun i _ => n - (intOf i).toNat)
  case atStart => exact ⟨0, Nat.zero_le _, rfl, HC0⟩
  case round =>
    obtain ⟨j, hj, rfl, HC⟩ := hrel
    clear HC0
    by_cases hlt : j < n
    · have b1 : (j : Int) < (n : Int) := by omega
      have b3 : (0 : Int) ≤ (j : Int) := by omega
      obtain ⟨x, hx⟩ : ∃ x, l[j]? = some x := ⟨_, List.getElem?_eq_getElem (by rw [HN.out]; exact hlt)⟩
      obtain ⟨ab, ao, c1, rfl, _, hka, hca⟩ := Kd.C_at' (Kd.C_new HA.out HC.out) hx
      obtain ⟨bb, bo, c2, rfl, _, hkb, hcb⟩ := Kd.C_at' (Kd.C_new HB.out HC.out) hx
      obtain rfl := ent_cells hka
      obtain rfl := ent_cells hkb
      have p0 : wr.cell? ⟨ab, ao + j * 6, none⟩ = some (.string x.1) := hca 0 _ rfl
      have q0 : wr.cell? ⟨bb, bo + j * 6, none⟩ = some (.string x.1) := hcb 0 _ rfl
      have p1 : wr.cell? ⟨ab, ao + j * 6 + 1, none⟩ = some (.string x.2.1) := hca 1 _ rfl
      have q1 : wr.cell? ⟨bb, bo + j * 6 + 1, none⟩ = some (.string x.2.1) := hcb 1 _ rfl
      have p2 : wr.cell? ⟨ab, ao + j * 6 + 2, none⟩ = some (.int .u64 x.2.2.1) := hca 2 _ rfl
      have q2 : wr.cell? ⟨bb, bo + j * 6 + 2, none⟩ = some (.int .u64 x.2.2.1) := hcb 2 _ rfl
      have p3 : wr.cell? ⟨ab, ao + j * 6 + 3, none⟩ = some (.int .u64 x.2.2.2.1) := hca 3 _ rfl
      have q3 : wr.cell? ⟨bb, bo + j * 6 + 3, none⟩ = some (.int .u64 x.2.2.2.1) := hcb 3 _ rfl
      have p4 : wr.cell? ⟨ab, ao + j * 6 + 4, none⟩ = some (.int .u64 x.2.2.2.2.1) := hca 4 _ rfl
      have q4 : wr.cell? ⟨bb, bo + j * 6 + 4, none⟩ = some (.int .u64 x.2.2.2.2.1) := hcb 4 _ rfl
      have p5 : wr.cell? ⟨ab, ao + j * 6 + 5, none⟩ = some (.int .u64 x.2.2.2.2.2) := hca 5 _ rfl
      have q5 : wr.cell? ⟨bb, bo + j * 6 + 5, none⟩ = some (.int .u64 x.2.2.2.2.2) := hcb 5 _ rfl
      have hneq : ∀ wx : World, (binOp .neq 49 (.agg #[.string x.1, .string x.2.1, .int .u64 x.2.2.1, .int .u64 x.2.2.2.1, .int .u64 x.2.2.2.2.1, .int .u64 x.2.2.2.2.2]) (.agg #[.string x.1, .string x.2.1, .int .u64 x.2.2.1, .int .u64 x.2.2.2.1, .int .u64 x.2.2.2.2.1, .int .u64 x.2.2.2.2.2])).run Try.prog wx = .ok (.bool false) wx := neq_ent x
      clear hx hka hkb hca hcb
      go_wp2
      go_quiet (fail)
      have HCD := Lib.hid (HC.out.thenNew ((Chg.refl nob wr).drewN nq))
      go_wp2
      exact ⟨⟨j + 1, hlt, by go_num, HCD⟩, by simp [intOf]; omega⟩
    · obtain rfl : j = n := by omega
      have b1 : ¬ (j : Int) < (j : Int) := by omega
      go_wp2
      go_ret
      exact ⟨rfl, HC.out⟩
def itnV (x : Itn) : Array Value := #[.string x.1, .string x.2.1, .bool x.2.2.1, .int .u64 x.2.2.2.1, .int .u64 x.2.2.2.2]
theorem itn_cells {w : World} {ok : Nat → Prop} {x : Itn} {cs : List Value} (h : itnK.K w ok x cs) : cs = (itnV x).toList := by
  obtain ⟨c0, _, e, h0, c1, _, rfl, h1, c2, _, rfl, h2, c3, c4, rfl, h3, h4⟩ := h
  have h0' : c0 = [.string x.1] := h0
  have h1' : c1 = [.string x.2.1] := h1
  have h2' : c2 = [.bool x.2.2.1] := h2
  have h3' : c3 = [.int .u64 x.2.2.2.1] := h3
  have h4' : c4 = [.int .u64 x.2.2.2.2] := h4
  subst h0' h1' h2' h3' h4'
  exact e
theorem neq_itn (x : Itn) (w : World) : (binOp .neq 82 (.agg (itnV x)) (.agg (itnV x))).run Try.prog w = .ok (.bool false) w := by
  have u1 := Try.underlying9
  have u2 := Try.underlying3
  have u3 := Try.underlying4
  have u4 := Try.underlying22
  obtain ⟨a0, a1, a2, a3, a4⟩ := x
  unfold itnV
  rw [run_neq_struct]
  rw [show (10000 : Nat) = 9999 + 1 from rfl]
  rw [run_equalIn_agg w 9999 _ _ _ (by kernel_rfl) (by kernel_rfl)]
  simp only [Program.fieldsOf, Try.underlying82]
  go_simp
set_option maxHeartbeats 1000000 in
theorem r_sameT {w : World} {okA okB : Nat → Prop} {A B : Option Addr} {n ca cb : Nat} {l : List Itn} (h : itnK.C w okA A l) (k : itnK.C w okB B l) (hn : l.length = n) :
    Calls Try.prog 21 #[.slice A n ca, .slice B n cb] w fun e w' => e = .returned (.bool true) ∧ Chg nob w w' := by
  have hsm := h.small
  rw [hn] at hsm
  have HN := Lib.hid hn
  have HA := Lib.hid h
  have HB := Lib.hid k
  have HC0 := Lib.hid (Chg.refl nob w)
  clear hn h k
  go_enter Try.func21, Try.ntmps21
  go_wp2
  go_loopw [5] (fun i wr => ∃ j : Nat, j ≤ n ∧ i = .int .i64 j ∧ Hid (Chg nob w wr)) (fun i _ => n - (intOf i).toNat)
  case atStart => exact ⟨0, Nat.zero_le _, rfl, HC0⟩
  case round =>
    obtain ⟨j, hj, rfl, HC⟩ := hrel
    clear HC0
    by_cases hlt : j < n
    · have b1 : (j : Int) < (n : Int) := by omega
      have b3 : (0 : Int) ≤ (j : Int) := by omega
      obtain ⟨x, hx⟩ : ∃ x, l[j]? = some x := ⟨_, List.getElem?_eq_getElem (by rw [HN.out]; exact hlt)⟩
      obtain ⟨ab, ao, c1, rfl, _, hka, hca⟩ := Kd.C_at' (Kd.C_new HA.out HC.out) hx
      obtain ⟨bb, bo, c2, rfl, _, hkb, hcb⟩ := Kd.C_at' (Kd.C_new HB.out HC.out) hx
      obtain rfl := itn_cells hka
      obtain rfl := itn_cells hkb
      have p0 : wr.cell? ⟨ab, ao + j * 5, none⟩ = some (.string x.1) := hca 0 _ rfl
      have q0 : wr.cell? ⟨bb, bo + j * 5, none⟩ = some (.string x.1) := hcb 0 _ rfl
      have p1 : wr.cell? ⟨ab, ao + j * 5 + 1, none⟩ = some (.string x.2.1) := hca 1 _ rfl
      have q1 : wr.cell? ⟨bb, bo + j * 5 + 1, none⟩ = some (.string x.2.1) := hcb 1 _ rfl
      have p2 : wr.cell? ⟨ab, ao + j * 5 + 2, none⟩ = some (.bool x.2.2.1) := hca 2 _ rfl
      have q2 : wr.cell? ⟨bb, bo + j * 5 + 2, none⟩ = some (.bool x.2.2.1) := hcb 2 _ rfl
      have p3 : wr.cell? ⟨ab, ao + j * 5 + 3, none⟩ = some (.int .u64 x.2.2.2.1) := hca 3 _ rfl
      have q3 : wr.cell? ⟨bb, bo + j * 5 + 3, none⟩ = some (.int .u64 x.2.2.2.1) := hcb 3 _ rfl
      have p4 : wr.cell? ⟨ab, ao + j * 5 + 4, none⟩ = some (.int .u64 x.2.2.2.2) := hca 4 _ rfl
      have q4 : wr.cell? ⟨bb, bo + j * 5 + 4, none⟩ = some (.int .u64 x.2.2.2.2) := hcb 4 _ rfl
      have hneq : ∀ wx : World, (binOp .neq 82 (.agg #[.string x.1, .string x.2.1, .bool x.2.2.1, .int .u64 x.2.2.2.1, .int .u64 x.2.2.2.2]) (.agg #[.string x.1, .string x.2.1, .bool x.2.2.1, .int .u64 x.2.2.2.1, .int .u64 x.2.2.2.2])).run Try.prog wx = .ok (.bool false) wx := neq_itn x
      clear hx hka hkb hca hcb
      go_wp2
      go_quiet (fail)
      have HCD := Lib.hid (HC.out.thenNew ((Chg.refl nob wr).drewN nq))
      go_wp2
      exact ⟨⟨j + 1, hlt, by go_num, HCD⟩, by simp [intOf]; omega⟩
    · obtain rfl : j = n := by omega
      have b1 : ¬ (j : Int) < (j : Int) := by omega
      go_wp2
      go_ret
      exact ⟨rfl, HC.out⟩
end Go.Proofs.Ytkclceghhebfaaa
