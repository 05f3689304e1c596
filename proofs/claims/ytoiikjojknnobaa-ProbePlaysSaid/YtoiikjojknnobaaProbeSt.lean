/- A ring and its draws, both of the call's own: what each call leaves; the law's own test. -/
import Derived.Test.YtoiikjojknnobaaProbeNo
namespace Go.Proofs.Ytoiikjojknnobaa
open Go.RowKit
set_option linter.unusedVariables false
set_option linter.unusedSimpArgs false
/-- What holds of every ring that calls made. -/
structure GoodR (s : List Int × Nat) : Prop where
  nd : s.1.Nodup
  bd : ∀ x ∈ s.1, 0 ≤ x ∧ x < 8
  at_ : s.2 ≤ s.1.length
theorem few : ∀ (n : Nat) (l : List Int), l.Nodup → (∀ x ∈ l, 0 ≤ x ∧ x < (n : Int)) → l.length ≤ n
  | 0, l, _, hb => by
    cases l with
    | nil => exact Nat.le_refl _
    | cons x l => have := hb x (List.mem_cons_self ..); omega
  | n + 1, l, hn, hb => by
    by_cases hm : (n : Int) ∈ l
    · have h1 := few n (l.erase (n : Int)) (hn.erase _) (fun x hx => by
        have h2 := (List.Nodup.mem_erase_iff hn).1 hx
        have h3 := hb x h2.2
        have h4 := h2.1
        omega)
      rw [List.length_erase_of_mem hm] at h1
      omega
    · have h1 := few n l hn (fun x hx => by
        have h3 := hb x hx
        have h4 : x ≠ (n : Int) := fun e => hm (e ▸ hx)
        omega)
      omega
theorem GoodR.len {s : List Int × Nat} (h : GoodR s) : s.1.length ≤ 8 := few 8 s.1 h.nd h.bd
theorem good0 : GoodR ([], 0) := ⟨List.nodup_nil, fun x h => by simp at h, Nat.le_refl _⟩
theorem good_add {xs : List Int} (hx : ∀ x ∈ xs, 0 ≤ x ∧ x < 4294967296) {k : Nat} {s : List Int × Nat} (h : GoodR s) (node : Int) : GoodR (addF xs k s node).2.1 := by
  unfold addF
  split
  · rename_i hc
    obtain ⟨h0, h8, hni⟩ := hc
    have hbd := drawVal_bd hx k ((s.1.length : Int) + 1)
    obtain ⟨j, hj⟩ : ∃ j, (drawVal xs k ((s.1.length : Int) + 1)).toNat = j := ⟨_, rfl⟩
    rw [hj]
    have hjl : j ≤ s.1.length := by omega
    have hp : (s.1.take j ++ node :: s.1.drop j).Perm (node :: s.1) := by
      refine List.perm_middle.trans ?_
      rw [List.take_append_drop]
    refine ⟨hp.nodup_iff.2 (List.nodup_cons.2 ⟨hni, h.nd⟩), fun x hx => ?_, ?_⟩
    · rcases List.mem_cons.1 (hp.mem_iff.1 hx) with rfl | hx
      · exact ⟨h0, h8⟩
      · exact h.bd x hx
    · have := hp.length_eq
      have h1 := h.at_
      show (if j < s.2 then s.2 + 1 else s.2) ≤ (s.1.take j ++ node :: s.1.drop j).length
      rw [this, List.length_cons]
      split <;> omega
  · exact h
theorem good_rem {s : List Int × Nat} (h : GoodR s) (node : Int) : GoodR (remF s node).2 := by
  unfold remF
  split
  · rename_i hc
    obtain ⟨j, hj⟩ : ∃ j, s.1.idxOf node = j := ⟨_, rfl⟩
    have hjl : j < s.1.length := by rw [← hj]; exact idxOf_lt hc
    rw [hj, ← List.eraseIdx_eq_take_drop_succ]
    have hsub : (s.1.eraseIdx j).Sublist s.1 := List.eraseIdx_sublist _ _
    refine ⟨hsub.nodup h.nd, fun x hx => h.bd x (hsub.subset hx), ?_⟩
    have h1 := h.at_
    show (if j < s.2 then s.2 - 1 else s.2) ≤ (s.1.eraseIdx j).length
    rw [List.length_eraseIdx_of_lt hjl]
    split <;> omega
  · exact h
theorem pickL_places {l : List Int} : ∀ m, m = l.length → pickL l (places m) = l := by
  intro m hm
  subst hm
  unfold pickL places
  rw [List.map_map]
  apply List.ext_getElem
  · simp
  · intro i h1 h2
    simp [List.getD_eq_getElem?_getD, List.getElem?_eq_getElem h2]
theorem pickL_perm {xs : List Int} (hx : ∀ x ∈ xs, 0 ≤ x ∧ x < 4294967296) {k : Nat} {l : List Int} (hl : l.length ≤ 64) : (pickL l (drawOrd xs k l.length).1).Perm l := by
  have h1 := (drawOrd_perm xs hx k l.length).map (fun i => l.getD i.toNat 0)
  have h2 : ordM (l.length : Int) = l.length := by unfold ordM; omega
  rw [h2] at h1
  exact h1.trans (by rw [show List.map (fun i : Int => l.getD i.toNat 0) (places l.length) = pickL l (places l.length) from rfl, pickL_places _ rfl])
theorem good_next {xs : List Int} (hx : ∀ x ∈ xs, 0 ≤ x ∧ x < 4294967296) {k : Nat} {s : List Int × Nat} (h : GoodR s) (live : List Int) : GoodR (nextF xs k s live).2.1 := by
  have hp := pickL_perm hx (k := k) (l := s.1) (by have := h.len; omega)
  unfold nextF
  split
  · exact ⟨h.nd, h.bd, by
      have := seekL_le (live := live) (l := s.1.drop s.2) (i := s.2)
      rw [List.length_drop] at this
      have h1 := h.at_
      show (seekL live (s.1.drop s.2) s.2).2.2 ≤ s.1.length
      omega⟩
  · exact ⟨hp.nodup_iff.2 h.nd, fun x hx => h.bd x (hp.mem_iff.1 hx), by
      have := seekL_le (live := live) (l := pickL s.1 (drawOrd xs k s.1.length).1) (i := 0)
      show (seekL live (pickL s.1 (drawOrd xs k s.1.length).1) 0).2.2 ≤ (pickL s.1 (drawOrd xs k s.1.length).1).length
      omega⟩
/-- A ring and its draws, both of the call's own; own: their blocks. -/
def PSt (W : World) (own : Nat → Prop) (g : Nat) (p : Option Addr) (xs : List Int) (s : List Int × Nat) (k : Nat) (w : World) : Prop :=
  ∃ okr okd, IsRing w okr g s.1 s.2 ∧ IsD w okd p xs k ∧ (∀ b, okd b → ¬ okr b ∧ b ≠ g) ∧ (∀ b, okr b ∨ okd b ∨ b = g → own b) ∧ (∀ b, own b → W.heap.size ≤ b ∧ b < w.heap.size) ∧ Chg nob W w ∧ GoodR s
/-- What a call leaves of them. -/
def PPost (W : World) (own : Nat → Prop) (g : Nat) (p : Option Addr) (xs : List Int) (s : List Int × Nat) (k : Nat) (w w' : World) : Prop :=
  Chg own w w' ∧ ∃ own', PSt W own' g p xs s k w' ∧ ∀ b, own' b → own b ∨ w.heap.size ≤ b
section
variable {W w w' : World} {g k : Nat} {p : Option Addr} {xs : List Int} {s : List Int × Nat} {own : Nat → Prop}
theorem PSt.lt (h : PSt W own g p xs s k w) (b : Nat) (hb : own b) : W.heap.size ≤ b ∧ b < w.heap.size := by
  obtain ⟨okr, okd, h1, h2, h3, h4, h5, h6, h7⟩ := h
  exact h5 b hb
theorem PSt.chg (h : PSt W own g p xs s k w) {S : Nat → Prop} (hc : Chg S w w') (hs : ∀ b, S b → ¬ own b ∧ W.heap.size ≤ b) : PSt W own g p xs s k w' := by
  obtain ⟨okr, okd, h1, h2, h3, h4, h5, h6, h7⟩ := h
  exact ⟨okr, okd, h1.chg hc (fun e => (hs _ e).1 (h4 _ (.inr (.inr rfl)))) (fun b hb e => (hs _ e).1 (h4 _ (.inl hb))), h2.chg hc (fun b hb e => (hs _ e).1 (h4 _ (.inr (.inl hb)))), h3, h4, fun b hb => ⟨(h5 b hb).1, Nat.lt_of_lt_of_le (h5 b hb).2 hc.size⟩, h6.trans hc (fun b hb => .inr (hs b hb).2), h7⟩
theorem PSt.new (h : PSt W own g p xs s k w) (hc : Chg nob w w') : PSt W own g p xs s k w' := h.chg hc (fun b hb => (not_nob b hb).elim)
theorem PSt.post {okr okd : Nat → Prop} {s' : List Int × Nat} {k' : Nat} (h3 : ∀ b, okd b → ¬ okr b ∧ b ≠ g) (h4 : ∀ b, okr b ∨ okd b ∨ b = g → own b) (h5 : ∀ b, own b → W.heap.size ≤ b ∧ b < w.heap.size) (h6 : Chg nob W w) (hp : RgPost w okr okd g p xs s'.1 s'.2 k' w') (hg : GoodR s') : PPost W own g p xs s' k' w w' := by
  obtain ⟨a1, a2, a3⟩ := hp
  have hc : Chg own w w' := a3.mono (fun b hb => .inl (h4 b (by rcases hb with hb | hb; exact .inr (.inr hb); exact .inr (.inl hb))))
  have hs := hc.size
  have h6s := h6.size
  refine ⟨hc, fun b => (own b ∨ w.heap.size ≤ b) ∧ b < w'.heap.size, ⟨_, okd, a1, a2, fun b hb => ?_, fun b hb => ?_, fun b hb => ?_, h6.trans hc (fun b hb => .inr (h5 b hb).1), hg⟩, fun b hb => hb.1⟩
  · refine ⟨fun k => ?_, (h3 b hb).2⟩
    rcases k.1 with k1 | k1
    · exact (h3 b hb).1 k1
    · have := (h5 b (h4 b (.inr (.inl hb)))).2
      omega
  · rcases hb with hb | hb | hb
    · exact ⟨by rcases hb.1 with h | h; exact .inl (h4 b (.inl h)); exact .inr h, hb.2⟩
    · have := h4 b (.inr (.inl hb)); exact ⟨.inl this, by have := (h5 b this).2; omega⟩
    · have := h4 b (.inr (.inr hb)); exact ⟨.inl this, by have := (h5 b this).2; omega⟩
  · rcases hb.1 with h | h
    · exact ⟨(h5 b h).1, hb.2⟩
    · exact ⟨by omega, hb.2⟩
theorem p_add (h : PSt W own g p xs s k w) (node : Int) :
    Calls Try.prog 10 #[.pointer (some ⟨g, 0, none⟩), .int .i64 node, .pointer p] w fun e w' => e = .returned (.bool (addF xs k s node).1) ∧ PPost W own g p xs (addF xs k s node).2.1 (addF xs k s node).2.2 w w' := by
  obtain ⟨okr, okd, h1, h2, h3, h4, h5, h6, h7⟩ := h
  refine (rg_add h1 h2 h3 (fun b hb => (h5 b (h4 b (.inr (.inl hb)))).2) h7.len (Nat.le_trans h7.at_ h7.len) node).mono ?_
  rintro e w' ⟨rfl, hp⟩
  exact ⟨rfl, PSt.post h3 h4 h5 h6 hp (good_add h2.bd h7 node)⟩
theorem p_remove (h : PSt W own g p xs s k w) (node : Int) :
    Calls Try.prog 18 #[.pointer (some ⟨g, 0, none⟩), .int .i64 node] w fun e w' => e = .returned (.bool (remF s node).1) ∧ PPost W own g p xs (remF s node).2 k w w' := by
  obtain ⟨okr, okd, h1, h2, h3, h4, h5, h6, h7⟩ := h
  refine (rg_remove h1 h2 h3 h7.len (Nat.le_trans h7.at_ h7.len) node).mono ?_
  rintro e w' ⟨rfl, hp⟩
  exact ⟨rfl, PSt.post h3 h4 h5 h6 hp (good_rem h7 node)⟩
theorem p_next (h : PSt W own g p xs s k w) {ok : Nat → Prop} {L : Option Addr} {ln lc : Nat} {live : List Int} (hL : intK.C w ok L live) (hln : live.length = ln) (hok : ∀ b, ok b → ¬ own b) :
    Calls Try.prog 11 #[.pointer (some ⟨g, 0, none⟩), .slice L ln lc, .pointer p] w fun e w' => e = .returned (.tuple #[.int .i64 (nextF xs k s live).1.1, .bool (nextF xs k s live).1.2]) ∧ PPost W own g p xs (nextF xs k s live).2.1 (nextF xs k s live).2.2 w w' := by
  obtain ⟨okr, okd, h1, h2, h3, h4, h5, h6, h7⟩ := h
  refine (rg_next h1 h2 h3 (fun b hb => (h5 b (h4 b (.inr (.inl hb)))).2) rfl h7.len h7.at_ hL hln (fun b hb => ⟨fun e => hok b hb (h4 b (.inr (.inr e))), fun e => hok b hb (h4 b (.inr (.inl e)))⟩)).mono ?_
  rintro e w' ⟨rfl, hp⟩
  exact ⟨rfl, PSt.post h3 h4 h5 h6 hp (good_next h2.bd h7 live)⟩
theorem p_start {w0 w1 : World} {g gd : Nat} {ys : List Int} (hr : IsRing w0 (fun _ => False) g [] 0) (hg : W.heap.size ≤ g) (hd : IsDraws w1 (fun b => w0.heap.size ≤ b) gd ys 0) (hc0 : Chg nob W w0) (hc1 : Chg nob w0 w1) : PSt W (fun b => W.heap.size ≤ b ∧ b < w1.heap.size) g (some ⟨gd, 0, none⟩) ys ([], 0) 0 w1 := by
  have hgl := hr.lt
  have hs := hc0.size
  have hs1 := hc1.size
  exact ⟨fun _ => False, fun b => w0.heap.size ≤ b ∧ b < w1.heap.size, hr.new hc1, (IsD.of hd).bound, fun b hb => ⟨fun h => h, by omega⟩, fun b hb => by rcases hb with h | h | h; exact h.elim; (constructor <;> omega); (subst h; constructor <;> omega), fun b hb => hb, hc0.thenNew hc1, good0⟩
end
set_option maxHeartbeats 1000000 in
theorem probe_works (w : World) : Calls Try.prog 12 #[] w fun e w' => e = .returned (.bool true) ∧ Chg nob w w' := by
  have hA : addF [] 0 ([], 0) 1 = (true, ([1], 0), 0) := by decide
  have hN : nextF [] 0 ([1], 0) [1] = ((1, true), ([1], 1), 0) := by decide
  have HA := Lib.hid hA
  have HN := Lib.hid hN
  clear hA hN
  go_enter Try.func12, Try.ntmps12
  go_wp2_with fail
  refine (rg_new w).mono ?_
  rintro e w1 ⟨g, rfl, hg, hr, hc1⟩
  go_wp2_with fail
  refine (draw_new (xs := []) (ok := fun _ => False) (Kd.C_nil _ _ _ _) (by simp) (by simp)).mono ?_
  rintro e w2 ⟨gd, rfl, hd, hc2⟩
  rw [List.take_nil] at hd
  have HS := Lib.hid (p_start hr hg hd hc1 hc2)
  clear hg hr hd hc1 hc2
  go_wp2_with fail
  refine (p_add HS.out 1).mono ?_
  rintro e w3 ⟨rfl, hc3, own, hs3, ho3⟩
  rw [HA.out] at hs3 ⊢
  have HS3 := Lib.hid hs3
  clear hc3 hs3 ho3
  go_wp2_with fail
  have hs4 := HS3.out.new ((Chg.refl nob w3).alloc (.cells #[.int .i64 1] 3))
  have hbx : intK.C (w3.alloc (.cells #[.int .i64 1] 3)) (fun k => False ∨ k = w3.heap.size) (some ⟨w3.heap.size, 0, none⟩) [1] := boxed (d := intK) (w := w3) (ok := fun _ => False) 3 rfl
  refine (p_next hs4 hbx rfl (fun b hb ho => by have := (HS3.out.lt b ho).2; rcases hb with h | h; exact h; omega)).mono ?_
  rintro e w5 ⟨rfl, hc5, own5, hs5, _⟩
  rw [HN.out]
  have HC5 : Hid (Chg nob w w5) := by obtain ⟨_, _, _, _, _, _, _, h, _⟩ := hs5; exact h
  clear hc5 hs5 hs4 hbx
  go_wp2
  go_ret
  exact ⟨rfl, HC5.out⟩
end Go.Proofs.Ytoiikjojknnobaa
