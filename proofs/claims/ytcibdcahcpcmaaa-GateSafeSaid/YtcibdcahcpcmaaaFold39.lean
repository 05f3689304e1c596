import Derived.Test.YtcibdcahcpcmaaaFold38
import Derived.Test.YtcibdcahcpcmaaaFold33
import Derived.Laws.StructEq
import Derived.Test.YtcibdcahcpcmaaaFold11
import Derived.Test.YtcibdcahcpcmaaaFold15
import Derived.Defers
import Derived.Recover
import Derived.Laws.Pointers
import Derived.Stop.Asserts
import Derived.Deep.CutRange
import Derived.Deep.DeepCutAuto
/- Tokens: Check and Read as plain functions; a token is issued, and checked. -/
namespace Go.Proofs.Ytcibdcahcpcmaaa
open Go.RowKit
set_option maxRecDepth 100000
set_option linter.unusedVariables false
set_option linter.unusedSimpArgs false
def redR (bs : List UInt8) : Tok × Nat := if bs.length < 8 then (zeroT, 40) else match readTok (bs.take (bs.length - 8)) with | none => (zeroT, 40) | some T => (T, 0)
def chkR (k0 k1 : Nat) (bs : List UInt8) : Tok × Nat := if bs.length < 8 then (zeroT, 40) else match readTok (bs.take (bs.length - 8)) with | none => (zeroT, 40) | some T => if bs.drop (bs.length - 8) = beB (sumN k0 k1 (bs.take (bs.length - 8))) then (T, 0) else (zeroT, 60)
def Tell (w : World) (R : Tok × Nat) (e : Ending) (w' : World) : Prop := e = .returned (.tuple #[.agg (tokV R.1), .int .i64 R.2]) ∧ Chg nob w w'
theorem redR_few {bs : List UInt8} (h : bs.length < 8) : redR bs = (zeroT, 40) := if_pos h
theorem chkR_few {k0 k1 : Nat} {bs : List UInt8} (h : bs.length < 8) : chkR k0 k1 bs = (zeroT, 40) := if_pos h
theorem redR_none {bs : List UInt8} {p : Nat} (h : bs.length = p + 8) (hr : readTok (bs.take p) = none) : redR bs = (zeroT, 40) := by
  unfold redR; rw [if_neg (by omega), show bs.length - 8 = p from by omega, hr]
theorem redR_some {bs : List UInt8} {p : Nat} {T : Tok} (h : bs.length = p + 8) (hr : readTok (bs.take p) = some T) : redR bs = (T, 0) := by
  unfold redR; rw [if_neg (by omega), show bs.length - 8 = p from by omega, hr]
theorem chkR_none {k0 k1 : Nat} {bs : List UInt8} {p : Nat} (h : bs.length = p + 8) (hr : readTok (bs.take p) = none) : chkR k0 k1 bs = (zeroT, 40) := by
  unfold chkR; rw [if_neg (by omega), show bs.length - 8 = p from by omega, hr]
theorem chkR_some {k0 k1 : Nat} {bs : List UInt8} {p : Nat} {T : Tok} (h : bs.length = p + 8) (hr : readTok (bs.take p) = some T) (hd : bs.drop p = beB (sumN k0 k1 (bs.take p))) : chkR k0 k1 bs = (T, 0) := by
  unfold chkR; rw [if_neg (by omega), show bs.length - 8 = p from by omega, hr]; exact if_pos hd
theorem chkR_bad {k0 k1 : Nat} {bs : List UInt8} {p : Nat} {T : Tok} (h : bs.length = p + 8) (hr : readTok (bs.take p) = some T) (hd : ¬ bs.drop p = beB (sumN k0 k1 (bs.take p))) : chkR k0 k1 bs = (zeroT, 60) := by
  unfold chkR; rw [if_neg (by omega), show bs.length - 8 = p from by omega, hr]; exact if_neg hd
theorem c_read {w : World} {A : Option Addr} {m c : Nat} {bs : List UInt8} (hb : Kd.byte.C w (fun b => b < w.heap.size) A bs) (hm : bs.length = m) (hmc : m ≤ c) (hl : m ≤ 140737488351232) :
    Calls Try.prog 29 #[.slice A m c] w (Tell w (redR bs)) := by
  by_cases h : m < 8
  · refine (t_read_few h).mono ?_
    rintro e w' ⟨hc, rfl⟩
    exact ⟨by rw [redR_few (by omega)]; rfl, hc⟩
  · obtain ⟨p, rfl⟩ : ∃ p, m = p + 8 := ⟨m - 8, by omega⟩
    refine (t_read hb hm hmc hl).mono ?_
    rintro e w' ⟨hc, ⟨T, hT, rfl⟩ | ⟨hT, rfl⟩⟩
    · exact ⟨by rw [redR_some hm hT]; rfl, hc⟩
    · exact ⟨by rw [redR_none hm hT]; rfl, hc⟩
theorem c_rread {w : World} {A : Option Addr} {m c : Nat} {bs : List UInt8} (hb : Kd.byte.C w (fun b => b < w.heap.size) A bs) (hm : bs.length = m) (hmc : m ≤ c) (hl : m ≤ 140737488351232) :
    Calls Try.prog 24 #[.slice A m c] w (Tell w (redR bs)) := by
  by_cases h : m < 8
  · refine (tr_read_few h).mono ?_
    rintro e w' ⟨hc, rfl⟩
    exact ⟨by rw [redR_few (by omega)]; rfl, hc⟩
  · obtain ⟨p, rfl⟩ : ∃ p, m = p + 8 := ⟨m - 8, by omega⟩
    refine (tr_read hb hm hmc hl).mono ?_
    rintro e w' ⟨hc, ⟨T, hT, rfl⟩ | ⟨hT, rfl⟩⟩
    · exact ⟨by rw [redR_some hm hT]; rfl, hc⟩
    · exact ⟨by rw [redR_none hm hT]; rfl, hc⟩
theorem c_check {w : World} {k0 k1 : Nat} (h0 : k0 < 18446744073709551616) (h1 : k1 < 18446744073709551616) {A : Option Addr} {m c : Nat} {bs : List UInt8} (hb : Kd.byte.C w (fun b => b < w.heap.size) A bs) (hm : bs.length = m) (hmc : m ≤ c) (hl : m ≤ 140737488351232) :
    Calls Try.prog 14 #[.agg #[.int .u64 k0, .int .u64 k1], .slice A m c] w (Tell w (chkR k0 k1 bs)) := by
  by_cases h : m < 8
  · refine (t_check_few h).mono ?_
    rintro e w' ⟨hc, rfl⟩
    exact ⟨by rw [chkR_few (by omega)]; rfl, hc⟩
  · obtain ⟨p, rfl⟩ : ∃ p, m = p + 8 := ⟨m - 8, by omega⟩
    refine (t_check h0 h1 hb hm hmc hl).mono ?_
    rintro e w' ⟨hc, ⟨T, hT, hd, rfl⟩ | ⟨T, hT, hd, rfl⟩ | ⟨hT, rfl⟩⟩
    · exact ⟨by rw [chkR_some hm hT hd]; rfl, hc⟩
    · exact ⟨by rw [chkR_bad hm hT hd]; rfl, hc⟩
    · exact ⟨by rw [chkR_none hm hT]; rfl, hc⟩
theorem c_rcheck {w : World} {k0 k1 : Nat} (h0 : k0 < 18446744073709551616) (h1 : k1 < 18446744073709551616) {A : Option Addr} {m c : Nat} {bs : List UInt8} (hb : Kd.byte.C w (fun b => b < w.heap.size) A bs) (hm : bs.length = m) (hmc : m ≤ c) (hl : m ≤ 140737488351232) :
    Calls Try.prog 11 #[.agg #[.int .u64 k0, .int .u64 k1], .slice A m c] w (Tell w (chkR k0 k1 bs)) := by
  by_cases h : m < 8
  · refine (tr_check_few h).mono ?_
    rintro e w' ⟨hc, rfl⟩
    exact ⟨by rw [chkR_few (by omega)]; rfl, hc⟩
  · obtain ⟨p, rfl⟩ : ∃ p, m = p + 8 := ⟨m - 8, by omega⟩
    refine (tr_check h0 h1 hb hm hmc hl).mono ?_
    rintro e w' ⟨hc, ⟨T, hT, hd, rfl⟩ | ⟨T, hT, hd, rfl⟩ | ⟨hT, rfl⟩⟩
    · exact ⟨by rw [chkR_some hm hT hd]; rfl, hc⟩
    · exact ⟨by rw [chkR_bad hm hT hd]; rfl, hc⟩
    · exact ⟨by rw [chkR_none hm hT]; rfl, hc⟩
/-- What was issued is checked as it was. -/
theorem chkR_sealed {k0 k1 : Nat} {s : ByteArray} {nd inc idx : Nat} (hok : tokOk s nd = true) (h2 : inc < 4294967296) (h3 : idx < 18446744073709551616) : chkR k0 k1 (sealed k0 k1 (tokB s nd inc idx)) = ((s, nd, inc, idx), 0) := by
  have e1 : (sealed k0 k1 (tokB s nd inc idx)).take (tokB s nd inc idx).length = tokB s nd inc idx := by rw [sealed, List.take_append_of_le_length (Nat.le_refl _), List.take_length]
  have e2 : (sealed k0 k1 (tokB s nd inc idx)).drop (tokB s nd inc idx).length = beB (sumN k0 k1 (tokB s nd inc idx)) := by rw [sealed, List.drop_append_of_le_length (Nat.le_refl _), List.drop_length, List.nil_append]
  refine chkR_some (p := (tokB s nd inc idx).length) (by rw [sealed, List.length_append, beB_len]) ?_ ?_
  · rw [e1]; exact readTok_fwd hok h2 h3
  · rw [e1, e2]
/-- What is checked is issued with these bytes. -/
theorem chkR_back {k0 k1 : Nat} {bs : List UInt8} (h : (chkR k0 k1 bs).2 = 0) : ∃ T : Tok, chkR k0 k1 bs = (T, 0) ∧ bs = sealed k0 k1 (tokB T.1 T.2.1 T.2.2.1 T.2.2.2) ∧ tokOk T.1 T.2.1 = true ∧ T.2.2.1 < 4294967296 ∧ T.2.2.2 < 18446744073709551616 := by
  by_cases hl : bs.length < 8
  · rw [chkR_few hl] at h; cases h
  · obtain ⟨p, hp⟩ : ∃ p, bs.length = p + 8 := ⟨bs.length - 8, by omega⟩
    cases hr : readTok (bs.take p) with
    | none => rw [chkR_none hp hr] at h; cases h
    | some T =>
      by_cases hd : bs.drop p = beB (sumN k0 k1 (bs.take p))
      · obtain ⟨a1, a2, a3, a4⟩ := readTok_bwd hr
        refine ⟨T, chkR_some hp hr hd, ?_, a2, by omega, a4⟩
        rw [← a1]
        exact ((sealed_iff hp).2 hd).symm
      · rw [chkR_bad hp hr hd] at h; cases h
theorem chkR_zero {k0 k1 : Nat} {bs : List UInt8} (h : (chkR k0 k1 bs).2 ≠ 0) : (chkR k0 k1 bs).1 = zeroT := by
  by_cases hl : bs.length < 8
  · rw [chkR_few hl]
  · obtain ⟨p, hp⟩ : ∃ p, bs.length = p + 8 := ⟨bs.length - 8, by omega⟩
    cases hr : readTok (bs.take p) with
    | none => rw [chkR_none hp hr]
    | some T =>
      by_cases hd : bs.drop p = beB (sumN k0 k1 (bs.take p))
      · rw [chkR_some hp hr hd] at h
        exact absurd rfl h
      · rw [chkR_bad hp hr hd]
def webS : ByteArray := ⟨#[119, 101, 98]⟩
theorem web_ok : tokOk webS 2 = true := by decide
theorem web_len : (tokB webS 2 3 4).length = 11 := by decide +kernel
end Go.Proofs.Ytcibdcahcpcmaaa

/- The gate: need, and the deferred closure. -/
namespace Go.Proofs.Ytcibdcahcpcmaaa
open Go.RowKit
set_option linter.unusedVariables false
set_option linter.unusedSimpArgs false
set_option maxRecDepth 100000
theorem g_need (w : World) (e : Int) : Calls Try.prog 18 #[.bool true, .int .i64 e] w fun en w' => en = .returned (.tuple #[]) ∧ w' = w := by
  go_enter Try.func18, Try.ntmps18
  go_wp2
  go_end0
  exact ⟨rfl, rfl⟩
/-- Why the gate gives up. -/
def refV (e : Int) : Value := .iface 72 (.agg #[.int .i64 e])
theorem g_needNo (w : World) (e : Int) : Calls Try.prog 18 #[.bool false, .int .i64 e] w fun en w' => en = .panicked [{ v := refV e, recovered := false }] ∧ w' = w := by
  go_enter Try.func18, Try.ntmps18
  go_wp2
  exact ⟨rfl, rfl, rfl⟩
abbrev Verd := Bool × Int × ByteArray × Int × Int
def verdV (v : Verd) : Array Value := #[.bool v.1, .int .i64 v.2.1, .string v.2.2.1, .int .u64 v.2.2.2.1, .int .i64 v.2.2.2.2]
def noV (e : Int) : Verd := (false, e, ByteArray.empty, 0, -1)
set_option maxHeartbeats 2000000 in
theorem catch_idle (vb : Nat) (w : World) : CallsD Try.prog 17 #[.pointer (some ⟨vb, 0, none⟩)] .returning w fun e u' w' => e = .returned (.tuple #[]) ∧ u' = .returning ∧ w' = w := by
  refine callsD_of_wpS Try.func17 rfl fun c₀ cs hu => ?_
  apply wpS_seq
  apply wpS_region
  simp [wpOpsS, go_sem, recoverD, hu, Try.ntmps17, Exit.thenS]
  refine wpS_of_wp ?_
  go_wp2
  cases c₀
  simp_all [bodyPostS, results, Try.results17]
theorem set5 {w : World} {g t : Nat} {z0 z1 z2 z3 z4 : Value} (h : w.heap[g]? = some (.cells #[z0, z1, z2, z3, z4] t (0, 0))) (v0 v1 v2 v3 v4 : Value) :
    (((((w.setCell ⟨g, 0, none⟩ v0).setCell ⟨g, 1, none⟩ v1).setCell ⟨g, 2, none⟩ v2).setCell ⟨g, 3, none⟩ v3).setCell ⟨g, 4, none⟩ v4).heap[g]? = some (.cells #[v0, v1, v2, v3, v4] t (0, 0)) ∧ Chg (fun b => b = g) w (((((w.setCell ⟨g, 0, none⟩ v0).setCell ⟨g, 1, none⟩ v1).setCell ⟨g, 2, none⟩ v2).setCell ⟨g, 3, none⟩ v3).setCell ⟨g, 4, none⟩ v4) := by
  have h0 : (w.setCell ⟨g, 0, none⟩ v0).heap[g]? = some (.cells #[v0, z1, z2, z3, z4] t (0, 0)) := by simpa using blk_set1 h 0 v0
  have h1 : ((w.setCell ⟨g, 0, none⟩ v0).setCell ⟨g, 1, none⟩ v1).heap[g]? = some (.cells #[v0, v1, z2, z3, z4] t (0, 0)) := by simpa using blk_set1 h0 1 v1
  have h2 : (((w.setCell ⟨g, 0, none⟩ v0).setCell ⟨g, 1, none⟩ v1).setCell ⟨g, 2, none⟩ v2).heap[g]? = some (.cells #[v0, v1, v2, z3, z4] t (0, 0)) := by simpa using blk_set1 h1 2 v2
  have h3 : ((((w.setCell ⟨g, 0, none⟩ v0).setCell ⟨g, 1, none⟩ v1).setCell ⟨g, 2, none⟩ v2).setCell ⟨g, 3, none⟩ v3).heap[g]? = some (.cells #[v0, v1, v2, v3, z4] t (0, 0)) := by simpa using blk_set1 h2 3 v3
  have h4 := blk_set1 h3 4 v4
  exact ⟨by simpa using h4, (((((Chg.refl (fun b => b = g) w).set1 0 v0).set1 1 v1).set1 2 v2).set1 3 v3).set1 4 v4⟩
theorem frz5 {w : World} {g t : Nat} {cs : Array Value} (h : w.heap[g]? = some (.cells cs t (0, 0))) (j : Nat) : w.frozen? ⟨g, j, none⟩ = false := by simp [World.frozen?, h]
theorem run_ref (e : Int) (w : World) : (Instr.typeAssert (refV e) 20 72 true).run Try.prog w = .ok (.tuple #[.agg #[.int .i64 e], .bool true]) w := by kernel_rfl
theorem neq_ref (e : Int) (w : World) : (binOp .neq 20 (refV e) .nilIface).run Try.prog w = .ok (.bool true) w := by kernel_rfl
theorem grd_ref (e : Int) (a b : Operand) (w : World) : (eqGuard .neq 20 a b (refV e) .nilIface).run Try.prog w = .ok () w := by kernel_rfl
set_option maxHeartbeats 2000000 in
theorem catch_ref {vb : Nat} {w : World} {a0 a1 a2 a3 a4 : Value} (h : w.heap[vb]? = some (.cells #[a0, a1, a2, a3, a4] 35 (0, 0))) (e : Int) :
    CallsD Try.prog 17 #[.pointer (some ⟨vb, 0, none⟩)] (.panicking [{ v := refV e, recovered := false }]) w fun en u' w' => en = .returned (.tuple #[]) ∧ u' = .panicking [{ v := refV e, recovered := true }] ∧ w'.heap[vb]? = some (.cells (verdV (noV e)) 35 (0, 0)) ∧ Chg (fun b => b = vb) w w' := by
  refine callsD_of_wpS Try.func17 rfl fun c₀ cs hu => ?_
  apply wpS_seq
  apply wpS_region
  simp [wpOpsS, go_sem, recoverD, hu, Try.ntmps17, Exit.thenS]
  refine wpS_of_wp ?_
  have hta := run_ref e
  have hne := neq_ref e
  have hgr := grd_ref e
  obtain ⟨V, hV⟩ : ∃ V, refV e = V := ⟨_, rfl⟩
  rw [hV] at hta hne hgr ⊢
  have hca : Chg nob w (w.alloc (.cells #[.int .i64 e] 72)) := (Chg.refl nob w).alloc _
  have hx := heap_alloc_new w (.cells #[.int .i64 e] 72)
  obtain ⟨wa, hwa⟩ : ∃ wa, w.alloc (.cells #[.int .i64 e] 72) = wa := ⟨_, rfl⟩
  rw [hwa] at hca hx
  have ha := hca.heap h (not_nob _)
  have x0 : wa.cell? ⟨w.heap.size, 0, none⟩ = some (.int .i64 e) := by rw [cell_of_row _ _ _ _ _ _ hx]; rfl
  obtain ⟨v0, v1, v2, v3, v4⟩ := row5i ha
  have f0 := frz5 ha 0
  have f1 := frz5 ha 1
  have f2 := frz5 ha 2
  have f3 := frz5 ha 3
  have f4 := frz5 ha 4
  obtain ⟨wf, hwf⟩ : ∃ wf, ((((wa.setCell ⟨vb, 0, none⟩ (.bool false)).setCell ⟨vb, 1, none⟩ (.int .i64 e)).setCell ⟨vb, 2, none⟩ (.string ⟨#[]⟩)).setCell ⟨vb, 3, none⟩ (.int .u64 0)).setCell ⟨vb, 4, none⟩ (.int .i64 (-1)) = wf := ⟨_, rfl⟩
  have hs := set5 ha (.bool false) (.int .i64 e) (.string ⟨#[]⟩) (.int .u64 0) (.int .i64 (-1))
  rw [hwf] at hs
  have HE : Hid (wf.heap[vb]? = some (.cells (verdV (noV e)) 35 (0, 0)) ∧ Chg (fun b => b = vb) w wf) := ⟨hs.1, (hca.ofNew (S := fun b => b = vb)).trans hs.2 (fun i hi => .inl hi)⟩
  clear h ha hs hx hca
  simp only [Array.replicate_succ, Array.replicate_zero, List.push_toArray, List.append_toArray, List.nil_append, List.cons_append, List.setIfInBounds_toArray, List.set_cons_zero, List.set_cons_succ]
  go_wp2
  have HE1 := HE.out.1
  have HE2 := HE.out.2
  cases c₀
  simp_all [bodyPostS, results, Try.results17]
#print axioms catch_ref
end Go.Proofs.Ytcibdcahcpcmaaa

/- What a call of Index, List, Clear leaves. -/
namespace Go.Proofs.Ytcibdcahcpcmaaa
open Go.RowKit
set_option linter.unusedVariables false
set_option linter.unusedSimpArgs false
end Go.Proofs.Ytcibdcahcpcmaaa
