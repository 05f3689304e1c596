/- The reference's Remove and Next. -/
import Derived.Test.YtoiikjojknnobaaProbeRfAdd
namespace Go.Proofs.Ytoiikjojknnobaa
open Go.RowKit
set_option linter.unusedVariables false
set_option linter.unusedSimpArgs false
theorem RfPost.refl {w : World} {okr okd : Nat → Prop} {g gd at_ k : Nat} {row xs : List Int} (h : IsRR w okr g row at_) (hD : IsRef w okd gd xs k) : RfPost w okr okd g gd xs row at_ k w := ⟨by
  obtain ⟨a0, A, c, a1, a3⟩ := h
  exact ⟨fun k => by rcases k.1 with h1 | h1; exact a0 h1; have := heap_lt a1; omega, A, c, a1, Kd.C_mono (Kd.C_bound a3) (fun b hb => ⟨.inl hb.1, hb.2⟩)⟩, hD, Chg.refl _ _⟩
/-- Whether a node at place j of a row is to take the place back. -/
def lessN (row : List Int) (at_ : Nat) (node : Int) (j : Nat) : Nat := if node ∈ row.take j ∧ row.idxOf node < at_ then 1 else 0
theorem lessN_ne {row : List Int} {at_ j : Nat} {node y : Int} (h : row[j]? = some y) (hy : ¬ y = node) : lessN row at_ node (j + 1) = lessN row at_ node j ∧ decide (node ∈ row.take (j + 1)) = decide (node ∈ row.take j) := by
  obtain ⟨hj, he⟩ := List.getElem?_eq_some_iff.1 h
  have h1 : (node ∈ row.take (j + 1)) = (node ∈ row.take j) := by
    rw [List.take_succ_eq_append_getElem hj, he, List.mem_append]
    apply propext
    constructor
    · rintro (h | h)
      · exact h
      · exact absurd (by simpa using h : node = y).symm hy
    · exact .inl
  unfold lessN
  simp only [h1]
  exact ⟨trivial, trivial⟩
theorem lessN_eq {row : List Int} {at_ j : Nat} {node : Int} (hn : row.Nodup) (h : row[j]? = some node) : lessN row at_ node j = 0 ∧ lessN row at_ node (j + 1) = (if j < at_ then 1 else 0) ∧ decide (node ∈ row.take (j + 1)) = true := by
  obtain ⟨hj, he⟩ := List.getElem?_eq_some_iff.1 h
  have hni : node ∉ row.take j := by
    intro hm
    obtain ⟨i, hi, e⟩ := List.mem_iff_getElem.1 hm
    rw [List.length_take] at hi
    rw [List.getElem_take] at e
    have := (List.getElem_inj (h₀ := by omega) (h₁ := hj) hn).1 (e.trans he.symm)
    omega
  have hin : node ∈ row.take (j + 1) := by
    rw [List.take_succ_eq_append_getElem hj, he]
    simp
  have hix := idxOf_at h hni
  unfold lessN
  rw [hix]
  exact ⟨if_neg (fun e => hni e.1), by simp [hin], decide_eq_true hin⟩
theorem lessN_le {row : List Int} {at_ j : Nat} {node : Int} : lessN row at_ node j ≤ 1 ∧ lessN row at_ node j ≤ at_ := by
  unfold lessN
  split <;> omega
set_option maxRecDepth 100000 in
set_option maxHeartbeats 4000000 in
theorem rf_remove {w : World} {okr okd : Nat → Prop} {g gd at_ k : Nat} {row xs : List Int} (h : IsRR w okr g row at_) (hD : IsRef w okd gd xs k) (hne : gd ≠ g) (hdg : ¬ okd g) (hnd : row.Nodup) (hl : row.length ≤ 8) (hat : at_ ≤ 8) (node : Int) :
    Calls Try.prog 19 #[.pointer (some ⟨g, 0, none⟩), .int .i64 node] w fun e w' => e = .returned (.bool (remF (row, at_) node).1) ∧ RfPost w okr okd g gd xs (remF (row, at_) node).2.1 (remF (row, at_) node).2.2 k w' := by
  have HI := Lib.hid h
  have HD := Lib.hid hD
  have HNE := Lib.hid hne
  have HDG := Lib.hid hdg
  have HND := Lib.hid hnd
  obtain ⟨n, hn⟩ : ∃ n, row.length = n := ⟨_, rfl⟩
  rw [hn] at hl
  have HN := Lib.hid hn
  have HF : Hid (remF (row, at_) node = (decide (node ∈ row), (restL node row, at_ - lessN row at_ node n))) := by
    show _ = _
    rw [remF_eq hnd, lessN, ← hn, List.take_length]
  have HR0 : Hid (intK.R 3 w w.heap.size (fun b => some b = (Value.slice none 0 0).ownBlock) (.slice none 0 0) (restL node (row.take 0))) := Kd.R_nil _ _ _ _ _
  have HC0 := Lib.hid (Chg.refl nob w)
  have HS0 : Hid (decide (node ∈ row.take 0) = false) := decide_eq_false (by simp)
  have HL0 : Hid (lessN row at_ node 0 = 0) := by show _ = _; simp [lessN]
  clear h hD hne hdg hnd hn
  go_enter Try.func19, Try.ntmps19
  go_wp2
  go_loopw [5, 6, 7, 8] (fun v b ls i wr => ∃ (j m l : Nat) (V : Option Addr) (cv : Nat) (bv : Bool), j ≤ n ∧ m ≤ j ∧ v = .slice V m cv ∧ b = .bool bv ∧ ls = .int .i64 l ∧ i = .int .i64 j ∧ Hid (decide (node ∈ row.take j) = bv) ∧ Hid (lessN row at_ node j = l) ∧ Hid ((restL node (row.take j)).length = m) ∧ Hid (intK.R 3 wr w.heap.size (fun b => some b = (Value.slice V m cv).ownBlock) (.slice V m cv) (restL node (row.take j))) ∧ Hid (Chg nob w wr)) (fun _ _ _ i _ => n - (intOf i).toNat)
  case atStart => exact ⟨0, 0, 0, none, 0, false, Nat.zero_le _, Nat.le_refl _, rfl, rfl, rfl, rfl, HS0, HL0, rfl, HR0, HC0⟩
  case round =>
    obtain ⟨j, m, l, V, cv, bv, hj, hmj, rfl, rfl, rfl, rfl, HS, HLS, HM, HR, HC⟩ := hrel
    clear HR0 HC0 HS0 HL0
    have HI3 := Lib.hid (HI.out.new HC.out)
    obtain ⟨A3, c3, q0, q1, q3, hC3⟩ := HI3.out.read
    rw [HN.out] at q0
    have HA3 := Lib.hid hC3
    clear hC3
    by_cases hlt : j < n
    · have b1 : (j : Int) < (n : Int) := by omega
      have b3 : (0 : Int) ≤ (j : Int) := by omega
      obtain ⟨y, hy⟩ : ∃ y, row[j]? = some y := ⟨_, List.getElem?_eq_getElem (by rw [HN.out]; exact hlt)⟩
      obtain ⟨ad2, rfl, _, hcell2⟩ := at_scalar HA3.out hy
      have hsn := restL_snoc (but := node) hy
      by_cases hyb : y = node
      · subst hyb
        rw [if_pos rfl] at hsn
        have HR2 := HR.out
        have HM2 := HM.out
        rw [← hsn] at HR2 HM2
        have HR2 := Lib.hid HR2
        have HM2 := Lib.hid HM2
        obtain ⟨z1, z2, z3⟩ := lessN_eq (at_ := at_) HND.out hy
        have t : (y != y) = false := by simp
        have hl0 : l = 0 := by rw [← HLS.out, z1]
        subst hl0
        have HZ3 := Lib.hid z3
        by_cases hja : j < at_
        · have b9 : (j : Int) < (at_ : Int) := by omega
          rw [if_pos hja] at z2
          have HZ2 := Lib.hid z2
          clear hsn hy z1 z2 z3 HS HLS
          go_wp2
          exact ⟨⟨j + 1, m, 1, V, cv, true, by omega, by omega, rfl, rfl, rfl, by go_num, HZ3, HZ2, HM2, HR2, HC⟩, by simp [intOf]; omega⟩
        · have b9 : ¬ (j : Int) < (at_ : Int) := by omega
          rw [if_neg hja] at z2
          have HZ2 := Lib.hid z2
          clear hsn hy z1 z2 z3 HS HLS
          go_wp2
          exact ⟨⟨j + 1, m, 0, V, cv, true, by omega, by omega, rfl, rfl, rfl, by go_num, HZ3, HZ2, HM2, HR2, HC⟩, by simp [intOf]; omega⟩
      · rw [if_neg hyb] at hsn
        have HSN := Lib.hid hsn
        have t : (y != node) = true := by simp [hyb]
        obtain ⟨z1, z2⟩ := lessN_ne (at_ := at_) hy hyb
        rw [HS.out] at z2
        rw [HLS.out] at z1
        have HZ1 := Lib.hid z1
        have HZ2 := Lib.hid z2
        clear hsn hyb hy z1 z2 HS HLS
        go_wp2_with (at_builtin; refine wp_app1I rfl _ _ rfl w.heap.size _ (.slice V m cv) (restL node (row.take j)) y rfl rfl HR.out HC.out.size (m + 1) (by rw [HM.out]) (by omega) ?_)
        intro A5 c5 w5 hR5 hC5 _
        have HM2 : Hid ((restL node (row.take (j + 1))).length = m + 1) := by show _ = _; rw [HSN.out, List.length_append, HM.out]; rfl
        rw [← HSN.out] at hR5
        have HR5 := Lib.hid hR5
        have HC5 : Hid (Chg nob w w5) := HC.out.trans hC5 (fun i hi => .inr (Kd.R_own HR.out i hi.symm).1)
        clear hR5 hC5
        go_wp2
        exact ⟨⟨j + 1, m + 1, l, A5, c5, bv, by omega, by omega, by go_num, rfl, rfl, by go_num, HZ2, HZ1, HM2, HR5, HC5⟩, by simp [intOf]; omega⟩
    · obtain rfl : j = n := by omega
      have b1 : ¬ (j : Int) < (j : Int) := by omega
      have HT : Hid (row.take j = row) := by show _ = _; rw [← HN.out, List.take_length]
      have hR := HR.out
      have hM := HM.out
      have hS := HS.out
      rw [HT.out] at hR hM hS
      obtain ⟨hl1, hl2⟩ := lessN_le (row := row) (at_ := at_) (node := node) (j := j)
      rw [HLS.out] at hl1 hl2
      have HF2 : Hid (remF (row, at_) node = (bv, (restL node row, at_ - l))) := by show _ = _; rw [HF.out, hS, HLS.out]
      obtain ⟨k1, k2, k3⟩ := Kd.R_read (Kd.R_ge Kd.scalar_flat hR)
      have hs2 := HC.out.size
      have hgl := HI.out.lt
      have hset := (HI3.out.setRow (A' := V) (c' := cv) (n := m) (ok' := fun b => (okr b ∨ w.heap.size ≤ b) ∧ b < wr.heap.size) (Kd.C_mono (Kd.C_bound k1) (fun b hb => ⟨.inr (by have := hb.1; omega), hb.2⟩)) k2 (fun e => by rcases e.1 with h1 | h1; exact HI.out.1 h1; omega))
      obtain ⟨A9, c9, p0, p1, p3, _⟩ := hset.read
      have hset2 := hset.setAt (at_ - l)
      have hch : Chg (fun b => b = g) wr ((wr.setCell ⟨g, 0, none⟩ (.slice V m cv)).setCell ⟨g, 1, none⟩ (.int .i64 ((at_ - l : Nat) : Int))) := ((Chg.refl (fun b => b = g) wr).setCell (p := ⟨g, 0, none⟩) (.inl rfl) _).setCell (p := ⟨g, 1, none⟩) (.inl rfl) _
      have HP : Hid (RfPost w okr okd g gd xs (restL node row) (at_ - l) k ((wr.setCell ⟨g, 0, none⟩ (.slice V m cv)).setCell ⟨g, 1, none⟩ (.int .i64 ((at_ : Int) - (l : Int))))) := by
        have e : (at_ : Int) - (l : Int) = ((at_ - l : Nat) : Int) := by omega
        rw [e]
        refine ⟨?_, (HD.out.new HC.out).chg hch HNE.out (fun b hb e => HDG.out (by rw [← show b = g from e]; exact hb)), (HC.out.ofNew).trans hch (fun b hb => .inl (.inl hb))⟩
        rw [show ((wr.setCell ⟨g, 0, none⟩ (.slice V m cv)).setCell ⟨g, 1, none⟩ (.int .i64 ((at_ - l : Nat) : Int))).heap.size = wr.heap.size from by simp [World.setCell]]
        exact hset2
      have hfit : IntKind.i64.wrap ((at_ : Int) - (l : Int)) = (at_ : Int) - (l : Int) := IntWalk.i64_in _ (by omega)
      clear hR hM hS k1 k2 k3 hset hset2 hch HS HLS HM HR p0
      go_wp2
      go_ret
      rw [HF2.out]
      exact ⟨rfl, HP.out⟩
/-- What Next has come to, at a try, with a row, a place and draws. -/
def resF (i : Nat) (xs : List Int) (k : Nat) (s : List Int × Nat) (live : List Int) : (Int × Bool) × (List Int × Nat) × Nat :=
  if i = 0 then nextF xs k s live else (((seekL live (s.1.drop s.2) s.2).1, (seekL live (s.1.drop s.2) s.2).2.1), (s.1, (seekL live (s.1.drop s.2) s.2).2.2), k)
theorem resF_found {i : Nat} {xs : List Int} {k : Nat} {s : List Int × Nat} {live : List Int} (h : (seekL live (s.1.drop s.2) s.2).2.1 = true) : resF i xs k s live = (((seekL live (s.1.drop s.2) s.2).1, true), (s.1, (seekL live (s.1.drop s.2) s.2).2.2), k) := by
  unfold resF
  split
  · rw [nextF, if_pos h]
  · rw [h]
theorem resF_next {xs : List Int} {k : Nat} {s : List Int × Nat} {live : List Int} (h : (seekL live (s.1.drop s.2) s.2).2.1 = false) : resF 0 xs k s live = resF 1 xs (drawOrd xs k s.1.length).2 (pickL s.1 (drawOrd xs k s.1.length).1, 0) live := by
  rw [resF, if_pos rfl, nextF, if_neg (by rw [h]; decide), resF, if_neg (by decide)]
  rfl
theorem resF_not {xs : List Int} {k : Nat} {s : List Int × Nat} {live : List Int} (h : (seekL live (s.1.drop s.2) s.2).2.1 = false) : resF 1 xs k s live = ((0, false), (s.1, s.2 + (s.1.drop s.2).length), k) := by
  obtain ⟨h1, h2⟩ := seekL_no h
  rw [resF, if_neg (by decide), h1, h2, h]
def atOfR (g : Nat) (w : World) : Nat := match w.cell? ⟨g, 1, none⟩ with | some (.int _ x) => x.toNat | _ => 0
/-- Between the tries. -/
structure RfMid (w : World) (okr okd : Nat → Prop) (g gd n : Nat) (xs live : List Int) (N : (Int × Bool) × (List Int × Nat) × Nat) (i : Nat) (row : List Int) (at_ k : Nat) (wr : World) : Prop where
  ring : IsRR wr (fun b => (okr b ∨ w.heap.size ≤ b) ∧ b < wr.heap.size) g row at_
  d : IsRef wr okd gd xs k
  chg : Chg (fun b => b = g ∨ b = gd) w wr
  len : row.length = n
  pl : at_ ≤ n
  res : N = resF i xs k (row, at_) live
set_option maxRecDepth 100000 in
set_option maxHeartbeats 4000000 in
theorem rf_next {w : World} {okr okd okl : Nat → Prop} {g gd at_ k n ln lc : Nat} {row xs live : List Int} {L : Option Addr} (h : IsRR w okr g row at_) (hD : IsRef w okd gd xs k) (hne : gd ≠ g) (hrd : ¬ okr gd) (hdg : ¬ okd g) (hokd : ∀ b, okd b → b < w.heap.size) (hn : row.length = n) (hn8 : n ≤ 8) (hat : at_ ≤ n) (hL : intK.C w okl L live) (hln : live.length = ln) (hokl : ∀ b, okl b → b ≠ g ∧ b ≠ gd) :
    Calls Try.prog 20 #[.pointer (some ⟨g, 0, none⟩), .slice L ln lc, .pointer (some ⟨gd, 0, none⟩)] w fun e w' => e = .returned (.tuple #[.int .i64 (nextF xs k (row, at_) live).1.1, .bool (nextF xs k (row, at_) live).1.2]) ∧ RfPost w okr okd g gd xs (nextF xs k (row, at_) live).2.1.1 (nextF xs k (row, at_) live).2.1.2 (nextF xs k (row, at_) live).2.2 w' := by
  have HI := Lib.hid h
  have HNE := Lib.hid hne
  have HRD := Lib.hid hrd
  have HDG := Lib.hid hdg
  have HOKD := Lib.hid hokd
  have HOKL := Lib.hid hokl
  have HL := Lib.hid hL
  have HLN := Lib.hid hln
  have hg := h.lt
  have hgd := hD.lt
  obtain ⟨N, hN⟩ : ∃ N, nextF xs k (row, at_) live = N := ⟨_, rfl⟩
  rw [hN]
  have HM0 : Hid (RfMid w okr okd g gd n xs live N 0 row at_ k w) := by
    obtain ⟨a1, a2, a3⟩ := RfPost.refl h hD
    exact ⟨a1, a2, a3, hn, hat, by rw [← hN]; rfl⟩
  clear h hD hne hrd hdg hokd hn hL hln hokl hN
  go_enter Try.func20, Try.ntmps20
  go_wp2
  go_loopw [8] (fun i wr => ∃ j : Nat, i = .int .i64 j ∧ ((∃ row at_ k, j ≤ 1 ∧ Hid (RfMid w okr okd g gd n xs live N j row at_ k wr)) ∨ (j = 2 ∧ Hid (N.1 = (0, false) ∧ RfPost w okr okd g gd xs N.2.1.1 N.2.1.2 N.2.2 wr)))) (fun i _ => 2 - (intOf i).toNat)
  case atStart => exact ⟨0, rfl, .inl ⟨row, at_, k, by omega, HM0⟩⟩
  case round =>
    obtain ⟨j, rfl, ⟨row, a0, k, hj1, HM⟩ | ⟨rfl, HE⟩⟩ := hrel
    · clear HM0
      obtain ⟨w1, hw1⟩ : ∃ w1, w1 = wr := ⟨_, rfl⟩
      subst hw1
      have b2 : (j : Int) < 2 := by omega
      have HN := Lib.hid HM.out.len
      have HI1 := Lib.hid HM.out.ring
      have hat1 := HM.out.pl
      have HC0 := Lib.hid (Chg.refl (fun b => b = g) w1)
      obtain ⟨S, hS⟩ : ∃ S, seekL live (row.drop a0) a0 = S := ⟨_, rfl⟩
      have HS := Lib.hid hS
      have HE0 := Lib.hid hS.symm
      clear hS
      have hgs := HM.out.chg.size
      go_wp2
      go_loopw [] (fun wx => ∃ i : Nat, i ≤ n ∧ Hid (S = seekL live (row.drop i) i) ∧ Hid (IsRR wx (fun b => (okr b ∨ w.heap.size ≤ b) ∧ b < w1.heap.size) g row i) ∧ Hid (Chg (fun b => b = g) w1 wx)) (fun wx => n - atOfR g wx)
      case atStart => exact ⟨a0, hat1, HE0, HI1, HC0⟩
      case round =>
        obtain ⟨i, hi, HE, HI2, HC⟩ := hrel
        clear HC0 HE0
        obtain ⟨A, c, q0, q1, q3, hC⟩ := HI2.out.read
        rw [HN.out] at q0
        have HRC := Lib.hid hC
        clear hC
        by_cases hlt : i < n
        · have b1 : (i : Int) < (n : Int) := by omega
          have b3 : (0 : Int) ≤ (i : Int) := by omega
          obtain ⟨y, hy⟩ : ∃ y, row[i]? = some y := ⟨_, List.getElem?_eq_getElem (by rw [HN.out]; exact hlt)⟩
          obtain ⟨ad, rfl, _, hcell⟩ := at_scalar HRC.out hy
          have HY : Hid (row.drop i = y :: row.drop (i + 1)) := drop_cons hy
          have hfit : IntKind.i64.wrap ((i : Int) + 1) = (i : Int) + 1 := IntWalk.i64_in _ (by omega)
          clear hy
          have HNX : Hid (∀ q, IsRR ((wr.drewN q).setCell ⟨g, 1, none⟩ (.int .i64 ((i : Int) + 1))) (fun b => (okr b ∨ w.heap.size ≤ b) ∧ b < w1.heap.size) g row (i + 1) ∧ Chg (fun b => b = g) w1 ((wr.drewN q).setCell ⟨g, 1, none⟩ (.int .i64 ((i : Int) + 1)))) := fun q =>
            ⟨(HI2.out.new (drew_chg nob wr q)).setAt (i + 1), (HC.out.drewN q).setCell (p := ⟨g, 1, none⟩) (.inl rfl) _⟩
          have HAT : Hid (n - (i + 1) < n - atOfR g wr) := by
            have h1 : atOfR g wr = i := by unfold atOfR; rw [q1]; rfl
            show _ < _
            omega
          go_wp2
          go_quiet (fail)
          obtain ⟨n1, rfl⟩ : ∃ n1, n1 = nq := ⟨nq, rfl⟩
          go_wp2
          go_quiet (fail)
          go_wp2_with fail
          obtain ⟨wy, hwy⟩ : ∃ wy, wy = (wr.drewN (n1 + nq)).setCell ⟨g, 1, none⟩ (.int .i64 ((i : Int) + 1)) := ⟨_, rfl⟩
          rw [← hwy]
          obtain ⟨hnx1, hnx2⟩ := HNX.out _
          rw [← hwy] at hnx1 hnx2
          have hLx := Kd.C_chg (Kd.C_chg HL.out HM.out.chg (fun b hb e => by rcases e with e | e; exact (HOKL.out b hb).1 e; exact (HOKL.out b hb).2 e)) hnx2 (fun b hb e => (HOKL.out b hb).1 e)
          have HI3 := Lib.hid hnx1
          have HC3 := Lib.hid hnx2
          obtain ⟨_, _, _, z2, _, _⟩ := hnx1.read
          have HAT2 : Hid (n - atOfR g wy < n - atOfR g wr) := by
            have h1 : atOfR g wy = i + 1 := by unfold atOfR; rw [z2]; rfl
            show _ < _
            rw [h1]
            exact HAT.out
          clear hwy hnx1 hnx2 z2 HAT q0 q1 q3
          refine (r_has hLx HLN.out y).mono ?_
          rintro e w' ⟨rfl, rfl⟩
          by_cases hin : y ∈ live
          · have HS3 : Hid (S = (y, true, i + 1)) := by
              show _ = _
              rw [HE.out, HY.out, seekL, if_pos hin]
            have HP : Hid (N.1 = (y, true) ∧ RfPost w okr okd g gd xs N.2.1.1 N.2.1.2 N.2.2 w') := by
              have hr := HM.out.res
              rw [resF_found (by show (seekL live (row.drop a0) a0).2.1 = true; rw [HS.out, HS3.out])] at hr
              dsimp only at hr
              rw [HS.out, HS3.out] at hr
              subst hr
              refine ⟨rfl, ?_, HM.out.d.chg HC3.out HNE.out (fun b hb e => HDG.out (by rw [← show b = g from e]; exact hb)), HM.out.chg.trans HC3.out (fun b hb => .inl (.inl hb))⟩
              have hs := HC3.out.size
              obtain ⟨c0, cA, cc, c1, c2⟩ := HI3.out
              exact ⟨fun e => c0 ⟨e.1, HI1.out.lt⟩, cA, cc, c1, Kd.C_mono c2 (fun b hb => ⟨hb.1, by omega⟩)⟩
            rw [decide_eq_true hin]
            clear hin hLx
            go_wp2
            go_ret2
            refine ⟨?_, HP.out.2⟩
            rw [HP.out.1]
            rfl
          · have HS3 : Hid (S = seekL live (row.drop (i + 1)) (i + 1)) := by
              show _ = _
              rw [HE.out, HY.out, seekL, if_neg hin]
            rw [decide_eq_false hin]
            clear hin hLx
            go_wp2
            exact ⟨⟨i + 1, by omega, HS3, HI3, HC3⟩, HAT2.out⟩
        · obtain rfl : i = n := by omega
          have b1 : ¬ (i : Int) < (i : Int) := by omega
          have HS3 : Hid (S.2.1 = false ∧ S.1 = 0) := by
            show _ ∧ _
            rw [HE.out, List.drop_of_length_le (by rw [HN.out]; exact Nat.le_refl _)]
            exact ⟨rfl, rfl⟩
          go_wp2
          go_quiet (fail)
          obtain ⟨n1, rfl⟩ : ∃ n1, n1 = nq := ⟨nq, rfl⟩
          have HIX := Lib.hid (HI2.out.new (drew_chg nob wr n1))
          have HCX := Lib.hid (HC.out.drewN n1)
          have HDX := Lib.hid (HM.out.d.chg HCX.out HNE.out (fun b hb e => HDG.out (by rw [← show b = g from e]; exact hb)))
          obtain ⟨w2, hw2⟩ : ∃ w2, w2 = wr.drewN n1 := ⟨_, rfl⟩
          rw [← hw2] at HIX HCX HDX ⊢
          clear hw2 HC HI2 q0 q1 q3
          have hs12 := HCX.out.size
          have hj01 : j = 0 ∨ j = 1 := by omega
          rcases hj01 with rfl | rfl
          · have t : (((0 : Nat) : Int) == 0) = true := rfl
            obtain ⟨A, c, q0, q1, q3, hC⟩ := HIX.out.read
            rw [HN.out] at q0
            clear hC
            rw [show ((0 : Nat) : Int) = (0 : Int) from rfl]
            go_wp2_with fail
            refine (ref_order HDX.out (fun b hb => by have := HOKD.out b hb; omega) (i : Int)).mono ?_
            rintro e w3 ⟨A2, c2, rfl, hl2, hC2, hd2, hc2⟩
            have HO := Lib.hid (drawOrd_ordered xs HDX.out.bd k i)
            have hM : ordM (i : Int) = i := by unfold ordM; omega
            have hlen : (drawOrd xs k i).1.length = i := by rw [HO.out.len, hM]
            have HMEM : Hid (∀ j, j < i → ∃ q : Nat, (drawOrd xs k i).1[j]? = some (q : Int) ∧ q < i) := by
              intro j hj
              have hj2 : j < (drawOrd xs k i).1.length := by rw [hlen]; exact hj
              obtain ⟨q, hq, hqn⟩ := HO.out.mem _ (List.getElem_mem hj2)
              exact ⟨q, by rw [List.getElem?_eq_getElem hj2, hq], by rw [hM] at hqn; exact hqn⟩
            have HRES : Hid (N = resF 1 xs (drawOrd xs k i).2 (pickL row (drawOrd xs k i).1, 0) live) := by
              show _ = _
              rw [HM.out.res, resF_next (by show (seekL live (row.drop a0) a0).2.1 = false; rw [HS.out]; exact HS3.out.1)]
              dsimp only
              rw [HN.out]
            obtain ⟨o, ho⟩ : ∃ o, (drawOrd xs k i).1 = o := ⟨_, rfl⟩
            obtain ⟨kv, hkv⟩ : ∃ kv, (drawOrd xs k i).2 = kv := ⟨_, rfl⟩
            rw [hlen]
            rw [ho] at hC2 HMEM hlen hl2 HRES
            rw [hkv] at hd2 HRES
            have HD2 := Lib.hid hd2
            have HC2 := Lib.hid hc2
            have HI3 := Lib.hid (HIX.out.chg hc2 (fun e => HNE.out e.symm) (fun b hb e => by
              have e : b = gd := e
              subst e
              rcases hb.1 with h1 | h1
              · exact HRD.out h1
              · omega))
            have HA2 := Lib.hid hC2
            have HOL := Lib.hid hlen
            have HR0 : Hid (intK.R 3 w3 w3.heap.size (fun b => some b = (Value.slice none 0 0).ownBlock) (.slice none 0 0) (pickL row (o.take 0))) := Kd.R_nil _ _ _ _ _
            have HC30 := Lib.hid (Chg.refl nob w3)
            have hs23 := hc2.size
            clear hC2 hd2 hc2 hlen HO ho hkv hM hl2 q0 q1 q3 t
            go_wp2
            go_loopw [11, 12] (fun v i2 wx => ∃ (j : Nat) (V : Option Addr) (cv : Nat), j ≤ i ∧ v = .slice V j cv ∧ i2 = .int .i64 j ∧ Hid (intK.R 3 wx w3.heap.size (fun b => some b = (Value.slice V j cv).ownBlock) (.slice V j cv) (pickL row (o.take j))) ∧ Hid (Chg nob w3 wx)) (fun v i2 _ => i - (intOf i2).toNat)
            case atStart => exact ⟨0, none, 0, Nat.zero_le _, rfl, rfl, HR0, HC30⟩
            case round =>
              obtain ⟨j, V, cv, hj, rfl, rfl, HR, HC⟩ := hrel
              clear HR0 HC30
              have HI4 := Lib.hid (HI3.out.new HC.out)
              obtain ⟨A3, c3, z0, z1, z3, zC⟩ := HI4.out.read
              rw [HN.out] at z0
              by_cases hlt : j < i
              · have b1 : (j : Int) < (i : Int) := by omega
                have b3 : (0 : Int) ≤ (j : Int) := by omega
                obtain ⟨q, hq, hqn⟩ := HMEM.out j hlt
                obtain ⟨y, hy⟩ : ∃ y, row[q]? = some y := ⟨_, List.getElem?_eq_getElem (by rw [HN.out]; exact hqn)⟩
                obtain ⟨ad2, rfl, _, hcell2⟩ := at_scalar (Kd.C_new HA2.out HC.out) hq
                obtain ⟨ad3, rfl, _, hcell3⟩ := at_scalar zC hy
                have b4 : (q : Int) < (i : Int) := by omega
                have b5 : (0 : Int) ≤ (q : Int) := by omega
                have HSN := Lib.hid (pickL_snoc (row := row) hq hy)
                have HLT : Hid ((pickL row (o.take j)).length = j) := by show _ = _; rw [pickL_length, List.length_take, HOL.out]; omega
                have HRX := Lib.hid (Kd.R_new HR.out ((Chg.refl nob _).drew))
                have HB := Lib.hid (boxed (d := intK) (w := World.drew wr) (ok := fun _ => False) (y := y) (cs := #[.int .i64 y]) 3 rfl)
                have HRX2 := Lib.hid (Kd.R_new HR.out (((Chg.refl nob _).drew).alloc (.cells #[.int .i64 y] 3)))
                clear zC hq hy
                go_wp2
                go_region_law (refine step_ownI rfl (.tmp 64) (.tmp 75) rfl _ rfl rfl HRX2.out HB.out rfl (by have := HC.out.size; simp; omega) (j + 1) (by rw [HLT.out]) (by omega) ?_
                               intro A5 c5 w5 hR5 hC5
                               rw [HSN.out] at hR5
                               have HR5 := Lib.hid hR5
                               have HC5 : Hid (Chg nob w3 w5) := ((HC.out.drew).alloc _).trans hC5 (fun i hi => .inr (Kd.R_own HR.out i hi.symm).1)
                               clear hR5 hC5)
                all_goals
                  go_wp2
                  exact ⟨⟨j + 1, A5, c5, by omega, rfl, by go_num, HR5, HC5⟩, by simp [intOf]; omega⟩
              · obtain rfl : j = i := by omega
                have b1 : ¬ (j : Int) < (j : Int) := by omega
                have HFULL : Hid (o.take j = o) := List.take_of_length_le (by rw [HOL.out]; exact Nat.le_refl _)
                have hR := HR.out
                rw [HFULL.out] at hR
                obtain ⟨k1, k2, k3⟩ := Kd.R_read (Kd.R_ge Kd.scalar_flat hR)
                have hcs2 := HC.out.size
                have hgw := HI.out.lt
                have hring := (HI4.out.setRow (A' := V) (c' := cv) (n := j) (ok' := fun b => (okr b ∨ w.heap.size ≤ b) ∧ b < wr.heap.size) (Kd.C_mono (Kd.C_bound k1) (fun b hb => ⟨.inr (by have := hb.1; omega), hb.2⟩)) k2 (fun e => by rcases e.1 with h1 | h1; exact HI.out.1 h1; omega)).setAt 0
                have hch : Chg (fun b => b = g) wr ((wr.setCell ⟨g, 0, none⟩ (.slice V j cv)).setCell ⟨g, 1, none⟩ (.int .i64 ((0 : Nat) : Int))) := ((Chg.refl (fun b => b = g) wr).setCell (p := ⟨g, 0, none⟩) (.inl rfl) _).setCell (p := ⟨g, 1, none⟩) (.inl rfl) _
                have hpost : RfMid w okr okd g gd j xs live N 1 (pickL row o) 0 kv ((wr.setCell ⟨g, 0, none⟩ (.slice V j cv)).setCell ⟨g, 1, none⟩ (.int .i64 ((0 : Nat) : Int))) := by
                  refine ⟨?_, (HD2.out.new HC.out).chg hch HNE.out (fun b hb e => HDG.out (by rw [← show b = g from e]; exact hb)), ((((HM.out.chg.trans HCX.out (fun b hb => .inl (.inl hb))).trans HC2.out (fun b hb => .inl (.inr hb))).thenNew HC.out).trans hch (fun b hb => .inl (.inl hb))), by rw [pickL_length, HOL.out], Nat.zero_le _, HRES.out⟩
                  rw [show ((wr.setCell ⟨g, 0, none⟩ (.slice V j cv)).setCell ⟨g, 1, none⟩ (.int .i64 ((0 : Nat) : Int))).heap.size = wr.heap.size from by simp [World.setCell]]
                  exact hring
                have HP := Lib.hid hpost
                clear hR k1 k2 k3 hring hch hpost zC
                go_wp2
                exact ⟨⟨1, rfl, .inl ⟨_, _, _, by omega, HP⟩⟩, by simp [intOf]⟩
          · have t : (((1 : Nat) : Int) == 0) = false := rfl
            have HE2 : Hid (N.1 = (0, false) ∧ RfPost w okr okd g gd xs N.2.1.1 N.2.1.2 N.2.2 w2) := by
              have hr := HM.out.res
              rw [resF_not (by show (seekL live (row.drop a0) a0).2.1 = false; rw [HS.out]; exact HS3.out.1)] at hr
              dsimp only at hr
              rw [List.length_drop, HN.out, show a0 + (i - a0) = i from by omega] at hr
              subst hr
              refine ⟨rfl, ?_, HDX.out, HM.out.chg.trans HCX.out (fun b hb => .inl (.inl hb))⟩
              obtain ⟨c0, cA, cc, c1, c2⟩ := HIX.out
              exact ⟨fun e => c0 ⟨e.1, HI1.out.lt⟩, cA, cc, c1, Kd.C_mono c2 (fun b hb => ⟨hb.1, by omega⟩)⟩
            rw [show ((1 : Nat) : Int) = (1 : Int) from rfl]
            go_wp2
            exact ⟨⟨2, rfl, .inr ⟨rfl, HE2⟩⟩, by simp [intOf]⟩
    · rw [show ((2 : Nat) : Int) = (2 : Int) from rfl]
      go_wp2
      go_ret2
      refine ⟨?_, HE.out.2⟩
      rw [HE.out.1]
      rfl
end Go.Proofs.Ytoiikjojknnobaa
