/- Messages: plain words, and the small functions: which fields a kind has; whether a node, an update may be. -/
import Derived.Test.YtmahjeafoogamaaFieldRef
import Derived.Test.YtmahjeafoogamaaAppend
namespace Go.Proofs.Ytmahjeafoogamaa
open Go.RowKit
set_option linter.unusedVariables false
set_option linter.unusedSimpArgs false
/-- What is said of a node: the node, its incarnation, its status. -/
abbrev Upd := Int × Int × Int
/-- Kind, number, sender, target, reply, updates. -/
abbrev Ms := Int × Int × Int × Int × Bool × List Upd
abbrev updK : Kd Upd := Kd.pair (Kd.int .i64) (Kd.pair (Kd.int .u32) (Kd.int .i64))
abbrev msK : Kd Ms := Kd.pair (Kd.int .i64) (Kd.pair (Kd.int .u32) (Kd.pair (Kd.int .i64) (Kd.pair (Kd.int .i64) (Kd.pair Kd.bool (Kd.slice updK)))))
theorem upd_cells {w : World} {ok : Nat → Prop} {x : Upd} {cs : List Value} (h : updK.K w ok x cs) : cs = [.int .i64 x.1, .int .u32 x.2.1, .int .i64 x.2.2] := by
  obtain ⟨c0, _, rfl, h0, c1, c2, rfl, h1, h2⟩ := h
  have h0' : c0 = [.int .i64 x.1] := h0
  have h1' : c1 = [.int .u32 x.2.1] := h1
  have h2' : c2 = [.int .i64 x.2.2] := h2
  subst h0' h1' h2'
  rfl
theorem ms_cells {w : World} {ok : Nat → Prop} {x : Ms} {cs : List Value} (h : msK.K w ok x cs) :
    ∃ B d, cs = [.int .i64 x.1, .int .u32 x.2.1, .int .i64 x.2.2.1, .int .i64 x.2.2.2.1, .bool x.2.2.2.2.1, .slice B x.2.2.2.2.2.length d] ∧ updK.C w ok B x.2.2.2.2.2 ∧ x.2.2.2.2.2.length ≤ d := by
  obtain ⟨c0, _, rfl, h0, c1, _, rfl, h1, c2, _, rfl, h2, c3, _, rfl, h3, c4, c5, rfl, h4, ⟨B, d, rfl, hl, h5⟩⟩ := h
  have h0' : c0 = [.int .i64 x.1] := h0
  have h1' : c1 = [.int .u32 x.2.1] := h1
  have h2' : c2 = [.int .i64 x.2.2.1] := h2
  have h3' : c3 = [.int .i64 x.2.2.2.1] := h3
  have h4' : c4 = [.bool x.2.2.2.2.1] := h4
  subst h0' h1' h2' h3' h4'
  exact ⟨B, d, rfl, h5, hl⟩
theorem upd_at {w : World} {ok : Nat → Prop} {A : Option Addr} {xs : List Upd} (h : updK.C w ok A xs) {j : Nat} {x : Upd} (hx : xs[j]? = some x) :
    ∃ b o, A = some ⟨b, o, none⟩ ∧ ok b ∧ w.cell? ⟨b, o + j * 3, none⟩ = some (.int .i64 x.1) ∧ w.cell? ⟨b, o + j * 3 + 1, none⟩ = some (.int .u32 x.2.1) ∧ w.cell? ⟨b, o + j * 3 + 2, none⟩ = some (.int .i64 x.2.2) := by
  obtain ⟨b, o, c, e, hb, hk, hc⟩ := Kd.C_at' h hx
  have hk' := upd_cells hk
  subst hk'
  exact ⟨b, o, e, hb, hc 0 _ rfl, hc 1 _ rfl, hc 2 _ rfl⟩
/-- Which fields a kind has: 0 number, 1 sender, 2 target, 3 reply, 4 updates. -/
def fieldsL (k : Int) : List Int := if k = 1 ∨ k = 3 then [0, 1, 2] else if k = 2 ∨ k = 4 then [0, 1] else if k = 5 then [1, 4] else if k = 6 then [1, 3, 4] else []
/-- Is it one of these? -/
def hasL (L : List Int) (f : Int) : Bool := L.contains f
def nodeB (n : Int) : Bool := decide (0 ≤ n ∧ n < 8)
def rightU (u : Upd) : Bool := decide (0 ≤ u.1 ∧ u.1 < 8 ∧ 0 ≤ u.2.2 ∧ u.2.2 ≤ 3)
def rightM (m : Ms) : Bool :=
  decide (1 ≤ m.1 ∧ m.1 ≤ 6) && nodeB m.2.2.1 && nodeB m.2.2.2.1 && decide (m.2.2.2.2.2.length ≤ 16) && (decide (m.2.1 = 0) || hasL (fieldsL m.1) 0) && (decide (m.2.2.2.1 = 0) || hasL (fieldsL m.1) 2) &&
    (!m.2.2.2.2.1 || hasL (fieldsL m.1) 3) && (decide (m.2.2.2.2.2.length = 0) || hasL (fieldsL m.1) 4) && m.2.2.2.2.2.all rightU
theorem s_fields {w : World} (k : Int) : Calls Try.prog 23 #[.int .i64 k] w fun e w' => Chg nob w w' ∧ ∃ A n, e = .returned (.slice A n n) ∧ (fieldsL k).length = n ∧ (A = none ↔ fieldsL k = []) ∧ (Kd.int .i64).C w' (fun b => w.heap.size ≤ b) A (fieldsL k) := by
  have lit : ∀ (xs : List Int) (cs : Array Value), cs.toList = xs.map (fun x => Value.int .i64 x) → xs.length ≤ 3 → (Kd.int .i64).C (w.alloc (.cells cs 3)) (fun b => w.heap.size ≤ b) (some ⟨w.heap.size, 0, none⟩) xs := by
    intro xs cs h hl
    refine ⟨by omega, xs.map (fun x => Value.int .i64 x), reps_of_scalar xs, fun _ => ⟨_, rfl, Nat.le_refl _, fun j u hu => ?_⟩⟩
    rw [add_at, cell_of_row _ w.heap.size (0 + j) cs 3 (0, 0) (heap_alloc_new w _), ← Array.getElem?_toList, h, Nat.zero_add]
    exact hu
  have HC : ∀ cs : Array Value, Hid (Chg nob w (w.alloc (.cells cs 3))) := fun cs => (Chg.refl nob w).alloc _
  have h1 := fun (e : fieldsL k = [0, 1, 2]) => lit [0, 1, 2] #[.int .i64 0, .int .i64 1, .int .i64 2] rfl (by decide)
  have h2 := fun (e : fieldsL k = [0, 1]) => lit [0, 1] #[.int .i64 0, .int .i64 1] rfl (by decide)
  have h3 := fun (e : fieldsL k = [1, 4]) => lit [1, 4] #[.int .i64 1, .int .i64 4] rfl (by decide)
  have h4 := fun (e : fieldsL k = [1, 3, 4]) => lit [1, 3, 4] #[.int .i64 1, .int .i64 3, .int .i64 4] rfl (by decide)
  have H1 := Lib.hid h1
  have H2 := Lib.hid h2
  have H3 := Lib.hid h3
  have H4 := Lib.hid h4
  clear lit h1 h2 h3 h4
  by_cases k1 : k = 1
  · subst k1
    go_enter Try.func23, Try.ntmps23
    go_wp2
    go_ret
    exact ⟨(HC _).out, _, 3, rfl, rfl, by simp [fieldsL], H1.out rfl⟩
  by_cases k3 : k = 3
  · subst k3
    go_enter Try.func23, Try.ntmps23
    go_wp2
    go_ret
    exact ⟨(HC _).out, _, 3, rfl, rfl, by simp [fieldsL], H1.out rfl⟩
  by_cases k2 : k = 2
  · subst k2
    go_enter Try.func23, Try.ntmps23
    go_wp2
    go_ret
    exact ⟨(HC _).out, _, 2, rfl, rfl, by simp [fieldsL], H2.out rfl⟩
  by_cases k4 : k = 4
  · subst k4
    go_enter Try.func23, Try.ntmps23
    go_wp2
    go_ret
    exact ⟨(HC _).out, _, 2, rfl, rfl, by simp [fieldsL], H2.out rfl⟩
  by_cases k5 : k = 5
  · subst k5
    go_enter Try.func23, Try.ntmps23
    go_wp2
    go_ret
    exact ⟨(HC _).out, _, 2, rfl, rfl, by simp [fieldsL], H3.out rfl⟩
  by_cases k6 : k = 6
  · subst k6
    go_enter Try.func23, Try.ntmps23
    go_wp2
    go_ret
    exact ⟨(HC _).out, _, 3, rfl, rfl, by simp [fieldsL], H4.out rfl⟩
  have e : fieldsL k = [] := by rw [fieldsL, if_neg (by omega), if_neg (by omega), if_neg k5, if_neg k6]
  have HE := Lib.hid e
  have b1 : (k == 1) = false := by simpa using k1
  have b2 : (k == 2) = false := by simpa using k2
  have b3 : (k == 3) = false := by simpa using k3
  have b4 : (k == 4) = false := by simpa using k4
  have b5 : (k == 5) = false := by simpa using k5
  have b6 : (k == 6) = false := by simpa using k6
  clear e H1 H2 H3 H4 HC
  go_enter Try.func23, Try.ntmps23
  go_wp2
  go_ret
  rw [HE.out]
  exact ⟨Chg.refl _ _, none, 0, rfl, rfl, by simp, Kd.C_nil _ _ _ _⟩
theorem s_node {w : World} (n : Int) : Calls Try.prog 25 #[.int .i64 n] w fun e w' => e = .returned (.bool (nodeB n)) ∧ w' = w := by
  by_cases h0 : 0 ≤ n
  · by_cases h8 : n < 8
    · have HB : Hid (nodeB n = true) := decide_eq_true ⟨h0, h8⟩
      go_enter Try.func25, Try.ntmps25
      go_wp2
      go_ret
      rw [HB.out]
      exact ⟨rfl, rfl⟩
    · have HB : Hid (nodeB n = false) := decide_eq_false (fun h => h8 h.2)
      go_enter Try.func25, Try.ntmps25
      go_wp2
      go_ret
      rw [HB.out]
      exact ⟨rfl, rfl⟩
  · have HB : Hid (nodeB n = false) := decide_eq_false (fun h => h0 h.1)
    go_enter Try.func25, Try.ntmps25
    go_wp2
    go_ret
    rw [HB.out]
    exact ⟨rfl, rfl⟩
set_option maxHeartbeats 1000000 in
theorem s_has {w : World} (k f : Int) : Calls Try.prog 26 #[.int .i64 k, .int .i64 f] w fun e w' => e = .returned (.bool (hasL (fieldsL k) f)) ∧ Chg nob w w' := by
  go_enter Try.func26, Try.ntmps26
  go_wp2_with fail
  refine (s_fields k).mono ?_
  rintro e w2 ⟨hc2, A, n, rfl, hn, _, hC⟩
  have HC2 := Lib.hid hc2
  have HN := Lib.hid hn
  have HC := Lib.hid hC
  obtain ⟨L, hL⟩ : ∃ L, fieldsL k = L := ⟨_, rfl⟩
  rw [hL] at HN HC
  have HL := Lib.hid hL
  have HS0 : Hid ((L.take 0).contains f = false) := rfl
  have hsm := hC.small
  rw [hn] at hsm
  clear hc2 hn hC hL
  go_wp2
  go_loopw [10] (fun i wr => ∃ j : Nat, j ≤ n ∧ i = .int .i64 j ∧ Hid ((L.take j).contains f = false) ∧ Hid (Chg nob w wr ∧ (Kd.int .i64).C wr (fun b => w.heap.size ≤ b) A L)) (fun i _ => n - (intOf i).toNat)
  case atStart => exact ⟨0, Nat.zero_le _, rfl, HS0, HC2.out, HC.out⟩
  case round =>
    obtain ⟨j, hj, rfl, HF, HS⟩ := hrel
    by_cases hlt : j < n
    · have b1 : (j : Int) < (n : Int) := by omega
      have b3 : (0 : Int) ≤ (j : Int) := by omega
      obtain ⟨x, hx⟩ : ∃ x, L[j]? = some x := ⟨_, List.getElem?_eq_getElem (by rw [HN.out]; exact hlt)⟩
      obtain ⟨ad, rfl, _, hcell⟩ := at_scalar HS.out.2 hx
      have hcell' : wr.cell? (ad.add j) = some (.int .i64 x) := hcell
      have HTK : Hid (L.take (j + 1) = L.take j ++ [x]) := by
        obtain ⟨hj, he⟩ := List.getElem?_eq_some_iff.1 hx
        show _ = _
        rw [List.take_succ_eq_append_getElem hj, he]
      have HX := Lib.hid hx
      clear hx hcell
      by_cases hxf : x = f
      · have t1 : (x == f) = true := by simpa using hxf
        have HR : Hid (hasL L f = true) := by
          show L.contains f = true
          rw [← hxf]
          exact List.contains_iff_mem.2 (List.mem_of_getElem? HX.out)
        clear hxf
        go_wp2
        go_ret
        rw [HL.out, HR.out]
        exact ⟨rfl, HS.out.1⟩
      · have t1 : (x == f) = false := by simpa using hxf
        have HF2 : Hid ((L.take (j + 1)).contains f = false) := by
          show _ = _
          rw [HTK.out, List.contains_eq_any_beq, List.any_append, ← List.contains_eq_any_beq, HF.out]
          simp only [List.any_cons, List.any_nil, Bool.or_false, Bool.false_or]
          rw [beq_eq_false_iff_ne]
          exact fun h => hxf h.symm
        clear hxf
        go_wp2
        exact ⟨⟨j + 1, by omega, by go_num, HF2, HS⟩, by simp [intOf]; omega⟩
    · obtain rfl : j = n := by omega
      have b1 : ¬ (j : Int) < (j : Int) := by omega
      have HR : Hid (hasL L f = false) := by
        have := HF.out
        rw [← HN.out, List.take_length] at this
        exact this
      go_wp2
      go_ret
      rw [HL.out, HR.out]
      exact ⟨rfl, HS.out.1⟩
end Go.Proofs.Ytmahjeafoogamaa
