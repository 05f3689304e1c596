/- Failover: Asks; the law's own test. -/
import Derived.Test.YthjlgcooihpakaaFoRRes
import Derived.Test.YthjlgcooihpakaaQry
namespace Go.Proofs.Ythjlgcooihpakaa
open Go.RowKit
set_option linter.unusedVariables false
set_option linter.unusedSimpArgs false
def askQ (tag t : ByteArray) : Qry := (1, 0, t, tag, ByteArray.empty, true)
/-- What Asks tells. -/
def asksL (ts : List ByteArray) (tag : ByteArray) (most : Int) : List Qry := if upR ts tag most = true then ts.map (askQ tag) else []
set_option maxRecDepth 100000 in
set_option maxHeartbeats 4000000 in
theorem f_asks {w : World} {okT : Nat → Prop} {T : Option Addr} {tn tc : Nat} {ts : List ByteArray} {tag : ByteArray} {most : Int} (hT : strK.C w okT T ts) (hn : ts.length = tn) (htc : tn ≤ tc) (hsz : ∀ s ∈ ts, s.size ≤ 9223372036854775807) (htg : tag.size ≤ 9223372036854775807) :
    Calls Try.prog 11 #[.agg #[.slice T tn tc, .string tag, .int .i64 most]] w fun e w' => ∃ A c, e = .returned (.slice A (asksL ts tag most).length c) ∧ (asksL ts tag most).length ≤ c ∧ qryK.C w' (fun b => b < w'.heap.size) A (asksL ts tag most) ∧ Chg nob w w' := by
  obtain ⟨w1, hw1⟩ : ∃ w1, w1 = w.alloc (.cells #[.slice T tn tc, .string tag, .int .i64 most] 24) := ⟨_, rfl⟩
  have hc1 : Chg nob w w1 := by rw [hw1]; exact (Chg.refl nob w).alloc _
  have hb := heap_alloc_new w (.cells #[.slice T tn tc, .string tag, .int .i64 most] 24)
  rw [← hw1] at hb
  have q0 : w1.cell? ⟨w.heap.size, 0, none⟩ = some (.slice T tn tc) := by rw [cell_of_row _ _ _ _ _ _ hb]; rfl
  have q1 : w1.cell? ⟨w.heap.size, 1, none⟩ = some (.string tag) := by rw [cell_of_row _ _ _ _ _ _ hb]; rfl
  have q2 : w1.cell? ⟨w.heap.size, 2, none⟩ = some (.int .i64 most) := by rw [cell_of_row _ _ _ _ _ _ hb]; rfl
  have HC1 := Lib.hid hc1
  have HB := Lib.hid hb
  have HW1 := Lib.hid hw1
  have HT := Lib.hid hT
  have HN := Lib.hid hn
  have HSZ := Lib.hid hsz
  have hsm := hT.small
  rw [hn] at hsm
  clear hb hc1 hw1 hT hn hsz
  go_enter Try.func11, Try.ntmps11
  go_wp2_with fail
  rw [← HW1.out]
  refine (f_right (Kd.C_new HT.out HC1.out) HN.out htc HSZ.out htg).mono ?_
  rintro e w2 ⟨rfl, hc2⟩
  obtain ⟨q, hq⟩ : ∃ q, upR ts tag most = q := ⟨_, rfl⟩
  rw [hq]
  have HQ := Lib.hid hq
  have HC2 := Lib.hid (HC1.out.thenNew hc2)
  have hb2 := hc2.heap HB.out (not_nob _)
  have HB2 := Lib.hid hb2
  have HT2 := Lib.hid (Kd.C_new HT.out HC2.out)
  clear hq hc2 q0 q1 q2 hb2
  cases q with
  | false =>
    have HR : Hid (asksL ts tag most = []) := if_neg (by rw [HQ.out]; decide)
    go_wp2
    go_ret
    rw [HR.out]
    exact ⟨none, 0, rfl, Nat.le_refl _, Kd.C_nil _ _ _ _, HC2.out⟩
  | true =>
    have HR : Hid (asksL ts tag most = ts.map (askQ tag)) := if_pos HQ.out
    have htn4 : tn ≤ 4 := by have := (of_decide_eq_true HQ.out).2.1; rw [HN.out] at this; exact this
    have q0 : w2.cell? ⟨w.heap.size, 0, none⟩ = some (.slice T tn tc) := by rw [cell_of_row _ _ _ _ _ _ HB2.out]; rfl
    have HR0 : Hid (qryK.R 47 w2 w2.heap.size (fun b => some b = (Value.slice none 0 0).ownBlock) (.slice none 0 0) ((ts.map (askQ tag)).take 0)) := Kd.R_nil _ _ _ _ _
    have HC20 := Lib.hid (Chg.refl nob w2)
    go_wp2
    clear q0
    go_loopw [3, 12] (fun v i wr => ∃ (k : Nat) (V : Option Addr) (cv : Nat), k ≤ tn ∧ v = .slice V k cv ∧ i = .int .i64 k ∧ Hid (qryK.R 47 wr w2.heap.size (fun b => some b = (Value.slice V k cv).ownBlock) (.slice V k cv) ((ts.map (askQ tag)).take k)) ∧ Hid (Chg nob w2 wr)) (fun _ i _ => tn - (intOf i).toNat)
    case atStart => exact ⟨0, none, 0, Nat.zero_le _, rfl, rfl, HR0, HC20⟩
    case round =>
      obtain ⟨k, V, cv, hk, rfl, rfl, HRR, HC⟩ := hrel
      clear HR0 HC20
      by_cases hlt : k < tn
      · have b1 : (k : Int) < (tn : Int) := by omega
        have b3 : (0 : Int) ≤ (k : Int) := by omega
        obtain ⟨y, hy⟩ : ∃ y, ts[k]? = some y := ⟨_, List.getElem?_eq_getElem (by rw [HN.out]; exact hlt)⟩
        obtain ⟨ad, rfl, _, hcell⟩ := at_scalar (Kd.C_new HT2.out HC.out) hy
        have hb2 := HC.out.heap HB2.out (not_nob _)
        have q1 : wr.cell? ⟨w.heap.size, 1, none⟩ = some (.string tag) := by rw [cell_of_row _ _ _ _ _ _ hb2]; rfl
        have HSN : Hid ((ts.map (askQ tag)).take k ++ [askQ tag y] = (ts.map (askQ tag)).take (k + 1)) := by
          show _ = _
          rw [List.take_add_one, List.getElem?_map, hy]
          rfl
        have HLT : Hid (((ts.map (askQ tag)).take k).length = k) := by show _ = _; rw [List.length_take, List.length_map, HN.out]; omega
        clear hy hb2
        go_wp2_with (at_builtin; refine wp_append1F (d := qryK) qry_flat rfl _ _ 44 rfl 47 (.agg #[.int .i64 0, .int .i64 0, .string ByteArray.empty, .string ByteArray.empty, .string ByteArray.empty, .bool false]) 72 Try.underlying44 qry_info rfl w2.heap.size _ (fun _ => False) (.slice V k cv) ((ts.map (askQ tag)).take k) (askQ tag y) (qryV (askQ tag y)) rfl rfl HRR.out (qry_mk _) ?_ ?_ HC.out.size (k + 1) (by rw [HLT.out]) ?_)
        · rw [HLT.out]; simp only [maxLen]; omega
        · rw [HLT.out]; omega
        intro A5 c5 w5 hR5 hC5 _
        have HC5 : Hid (Chg nob w2 w5) := HC.out.trans hC5 (fun i hi => .inr (Kd.R_own HRR.out i hi.symm).1)
        have HR5 : Hid (qryK.R 47 w5 w2.heap.size (fun b => some b = (Value.slice A5 (k + 1) c5).ownBlock) (.slice A5 (k + 1) c5) ((ts.map (askQ tag)).take (k + 1))) := by
          show Kd.R _ _ _ _ _ _ _
          rw [← HSN.out]
          exact hR5
        clear hR5 hC5 q1 hcell
        go_wp2
        exact ⟨⟨k + 1, A5, c5, by omega, rfl, by go_num, HR5, HC5⟩, by simp [intOf]; omega⟩
      · obtain rfl : k = tn := by omega
        have b1 : ¬ (k : Int) < (k : Int) := by omega
        have hR := HRR.out
        rw [List.take_of_length_le (by rw [List.length_map, HN.out]; exact Nat.le_refl _)] at hR
        obtain ⟨k1, k2, k3⟩ := Kd.R_read (Kd.R_ge qry_flat hR)
        have HK := Lib.hid (Kd.C_bound k1)
        have HLL : Hid ((asksL ts tag most).length = k) := by show _ = _; rw [HR.out, List.length_map, HN.out]
        clear hR k1 k2
        go_wp2
        go_ret
        refine ⟨V, cv, by rw [HLL.out]; rfl, by rw [HLL.out]; exact k3, ?_, HC2.out.thenNew HC.out⟩
        rw [HR.out]
        exact Kd.C_mono HK.out (fun b hb => hb.2)
theorem ansV_mk (x : Inst) {w : World} {ok : Nat → Prop} {I : Option Addr} (hI : instK.C w ok I [x]) : ansK.K w ok (1, 0, (false, 0, ByteArray.empty, [], []), [], [x], [], []) [.int .i64 1, .int .u64 0, .bool false, .int .i64 0, .string ByteArray.empty, .slice none 0 0, .slice none 0 0, .slice none 0 0, .slice I 1 1, .slice none 0 0, .slice none 0 0] :=
  ans_mk (x := (1, 0, (false, 0, ByteArray.empty, [], []), [], [x], [], [])) (S := none) (K := none) (N := none) (E := none) (T := none) (sd := 0) (kd := 0) (nd := 0) (id := 1) (ed := 0) (td := 0) ⟨Kd.C_nil _ _ _ _, Nat.le_refl _, by simp⟩ ⟨Kd.C_nil _ _ _ _, Nat.le_refl _, by simp⟩ ⟨Kd.C_nil _ _ _ _, Nat.le_refl _, by simp⟩ ⟨hI, Nat.le_refl _, by simp⟩ ⟨Kd.C_nil _ _ _ _, Nat.le_refl _, by simp⟩ ⟨Kd.C_nil _ _ _ _, Nat.le_refl _, by simp⟩
def webS : ByteArray := ⟨#[119, 101, 98]⟩
def aS : ByteArray := ⟨#[97]⟩
def workI : Inst := ((0, aS, webS, [], 0, 0, 0), 0)
def workA : Ans := (1, 0, (false, 0, ByteArray.empty, [], []), [], [workI], [], [])
theorem work_res : resW [webS] ByteArray.empty 1 [workA] = ([workI.1], 0) := by kernel_rfl
theorem work_right : upR [webS] ByteArray.empty 1 = true := by decide +kernel
set_option maxRecDepth 100000 in
set_option maxHeartbeats 4000000 in
theorem fo_works (w : World) : Calls Try.prog 7 #[] w fun e w' => e = .returned (.bool true) ∧ Chg nob w w' := by
  obtain ⟨w1, hw1⟩ : ∃ w1, w1 = w.alloc (.cells #[.string { data := #[119, 101, 98] }] 9) := ⟨_, rfl⟩
  obtain ⟨w2, hw2⟩ : ∃ w2, w2 = w1.alloc (.cells #[.slice (some ⟨w.heap.size, 0, none⟩) 1 1, .string { data := #[] }, .int .i64 1] 24) := ⟨_, rfl⟩
  obtain ⟨w3, hw3⟩ : ∃ w3, w3 = w2.alloc (.cells #[.int .i64 0, .string { data := #[97] }, .string { data := #[119, 101, 98] }, .slice none 0 0, .int .i64 0, .int .u64 0, .int .u64 0, .int .i64 0] 65) := ⟨_, rfl⟩
  obtain ⟨w4, hw4⟩ : ∃ w4, w4 = w3.alloc (.cells #[.int .i64 1, .int .u64 0, .bool false, .int .i64 0, .string { data := #[] }, .slice none 0 0, .slice none 0 0, .slice none 0 0, .slice (some ⟨w.heap.size + 1 + 1, 0, none⟩) 1 1, .slice none 0 0, .slice none 0 0] 36) := ⟨_, rfl⟩
  have s1 : w1.heap.size = w.heap.size + 1 := by rw [hw1]; simp
  have s2 : w2.heap.size = w.heap.size + 1 + 1 := by rw [hw2]; simp [s1]
  have s3 : w3.heap.size = w.heap.size + 1 + 1 + 1 := by rw [hw3]; simp [s2]
  have c1 : Chg nob w w1 := by rw [hw1]; exact (Chg.refl nob w).alloc _
  have c2 : Chg nob w1 w2 := by rw [hw2]; exact (Chg.refl nob w1).alloc _
  have c3 : Chg nob w2 w3 := by rw [hw3]; exact (Chg.refl nob w2).alloc _
  have c4 : Chg nob w3 w4 := by rw [hw4]; exact (Chg.refl nob w3).alloc _
  have t1 : strK.C w1 (fun b => False ∨ b = w.heap.size) (some ⟨w.heap.size, 0, none⟩) [webS] := by rw [hw1]; exact boxed (d := strK) 9 rfl
  have t3 : instK.C w3 (fun b => False ∨ b = w2.heap.size) (some ⟨w2.heap.size, 0, none⟩) [workI] := by
    rw [hw3]
    exact boxed (d := instK) (y := workI) (cs := #[.int .i64 0, .string { data := #[97] }, .string { data := #[119, 101, 98] }, .slice none 0 0, .int .i64 0, .int .u64 0, .int .u64 0, .int .i64 0]) 65 ⟨[_, _, _, _, _, _, _], [_], rfl, svc_mk (x := workI.1) (Kd.C_nil _ _ _ _) (Nat.le_refl _) (by decide), rfl⟩
  have t4 : ansK.C w4 (fun b => (False ∨ b = w2.heap.size) ∨ b = w3.heap.size) (some ⟨w3.heap.size, 0, none⟩) [workA] := by
    rw [hw4]
    rw [s2] at t3
    exact boxed (d := ansK) (y := workA) (cs := #[.int .i64 1, .int .u64 0, .bool false, .int .i64 0, .string { data := #[] }, .slice none 0 0, .slice none 0 0, .slice none 0 0, .slice (some ⟨w.heap.size + 1 + 1, 0, none⟩) 1 1, .slice none 0 0, .slice none 0 0]) 36 (by rw [s2]; exact ansV_mk workI t3)
  have hu : w4.heap[w1.heap.size]? = some (.cells #[.slice (some ⟨w.heap.size, 0, none⟩) 1 1, .string { data := #[] }, .int .i64 1] 24 (0, 0)) := c4.heap (c3.heap (by rw [hw2]; exact heap_alloc_new w1 _) (not_nob _)) (not_nob _)
  have tT := Kd.C_new (Kd.C_new (Kd.C_new t1 c2) c3) c4
  rw [s3] at t4
  rw [s1] at hu
  have HT := Lib.hid tT
  have HL := Lib.hid t4
  have HU := Lib.hid hu
  have HC := Lib.hid (((c1.thenNew c2).thenNew c3).thenNew c4)
  have HS4 : Hid (w4.heap.size = w.heap.size + 1 + 1 + 1 + 1) := by show _ = _; rw [hw4]; simp [s3]
  have HS2 := Lib.hid s2
  have HW : Hid (((((w.alloc (.cells #[.string { data := #[119, 101, 98] }] 9)).alloc (.cells #[.slice (some ⟨w.heap.size, 0, none⟩) 1 1, .string { data := #[] }, .int .i64 1] 24)).alloc (.cells #[.int .i64 0, .string { data := #[97] }, .string { data := #[119, 101, 98] }, .slice none 0 0, .int .i64 0, .int .u64 0, .int .u64 0, .int .i64 0] 65)).alloc (.cells #[.int .i64 1, .int .u64 0, .bool false, .int .i64 0, .string { data := #[] }, .slice none 0 0, .slice none 0 0, .slice none 0 0, .slice (some ⟨w.heap.size + 1 + 1, 0, none⟩) 1 1, .slice none 0 0, .slice none 0 0] 36)) = w4) := by show _ = _; rw [hw4, hw3, hw2, hw1]
  clear hw1 hw2 hw3 hw4 s1 s2 s3 c1 c2 c3 c4 t1 t3 t4 hu tT
  go_enter Try.func7, Try.ntmps7
  go_wp2_with fail
  rw [HW.out]
  refine (f_resolve (ts := [webS]) (tag := ByteArray.empty) (ls := [workA]) (most := 1) HT.out HL.out rfl rfl (Nat.le_refl _) (by simp; decide) (by decide) (fun b hb => ?_) (fun b hb => ?_)).mono ?_
  · have := HS4.out; rcases hb with h | h; exact h.elim; omega
  · have := HS4.out; have := HS2.out; rcases hb with (h | h) | h; exact h.elim; omega; omega
  rw [work_res]
  rintro e w5 ⟨A, c, rfl, hcl, hC5, hc5⟩
  have HC5 := Lib.hid hc5
  have hu5 := hc5.heap HU.out (not_nob _)
  have HU5 := Lib.hid hu5
  obtain ⟨b, o, L, d, rfl, _, hat, _, _, _⟩ := svc_at (j := 0) (x := workI.1) hC5 rfl
  have HAT := Lib.hid hat
  have q0 : w5.cell? ⟨w.heap.size + 1, 0, none⟩ = some (.slice (some ⟨w.heap.size, 0, none⟩) 1 1) := by rw [cell_of_row _ _ _ _ _ _ hu5]; rfl
  have q1 : w5.cell? ⟨w.heap.size + 1, 1, none⟩ = some (.string { data := #[] }) := by rw [cell_of_row _ _ _ _ _ _ hu5]; rfl
  have q2 : w5.cell? ⟨w.heap.size + 1, 2, none⟩ = some (.int .i64 1) := by rw [cell_of_row _ _ _ _ _ _ hu5]; rfl
  clear hc5 hu5 hat hC5 hcl
  go_wp2_with fail
  refine (f_right (ts := [webS]) (tag := ByteArray.empty) (most := 1) (Kd.C_new HT.out HC5.out) rfl (Nat.le_refl _) (by simp; decide) (by decide)).mono ?_
  rw [work_right]
  rintro e w6 ⟨rfl, hc6⟩
  obtain ⟨p0, p1, p2, p3, p4, p5, p6⟩ := HAT.out.new hc6
  rw [Nat.zero_mul, Nat.add_zero] at p1
  have HC6 := Lib.hid ((HC.out.thenNew HC5.out).thenNew hc6)
  clear hc6 q0 q1 q2 p0 p2 p3 p4 p5 p6
  have p1' : w6.cell? ⟨b, o + 1, none⟩ = some (.string { data := #[97] }) := p1
  clear p1
  go_wp2
  go_ret
  exact ⟨rfl, HC6.out⟩
end Go.Proofs.Ythjlgcooihpakaa
