/- Messages: the plain laws: what is read was laid, and what is laid is read. -/
import Derived.Test.YtmahjeafoogamaaSpeechGet
namespace Go.Proofs.Ytmahjeafoogamaa
open Go.RowKit
set_option linter.unusedVariables false
set_option linter.unusedSimpArgs false
theorem rNum_e0 {bs : List UInt8} {e most : Nat} (h : (rNum true bs e most).2.2 = 0) : e = 0 := by
  unfold rNum at h
  split at h
  · rename_i h1; exact h1.2
  · exact h
theorem rNum_back {bs : List UInt8} {e most : Nat} (h : (rNum true bs e most).2.2 = 0) : e = 0 ∧ bs = numB (rNum true bs e most).1 ++ (rNum true bs e most).2.1 := by
  obtain rfl := rNum_e0 h
  exact ⟨rfl, (rNum_bwd (Prod.ext rfl (Prod.ext rfl h))).1⟩
theorem rFlag_back {bs : List UInt8} {e : Nat} (h : (rFlag true bs e).2.2 = 0) : e = 0 ∧ bs = numB (if (rFlag true bs e).1 then 1 else 0) ++ (rFlag true bs e).2.1 := by
  have h0 : e = 0 := by
    unfold rFlag at h
    split at h
    · rename_i h1; exact h1.2
    · exact h
  subst h0
  exact ⟨rfl, rFlag_bwd (Prod.ext rfl (Prod.ext rfl h))⟩
theorem rUpd_back (bs : List UInt8) (u : Upd) (bs' : List UInt8) (h : rUpd bs 0 = (u, bs', 0)) : bs = updB u ++ bs' := by
  simp only [rUpd, Prod.mk.injEq] at h
  obtain ⟨rfl, hh⟩ := h
  have h3 := congrArg Prod.snd hh
  have h2 := congrArg Prod.fst hh
  dsimp only at h2 h3
  obtain ⟨a3, b3⟩ := rNum_back h3
  obtain ⟨a2, b2⟩ := rNum_back a3
  obtain ⟨a1, b1⟩ := rNum_back a2
  rw [updB, Int.toNat_natCast, Int.toNat_natCast, Int.toNat_natCast, List.append_assoc, List.append_assoc, ← h2, ← b3, ← b2, ← b1]
theorem updsB_map (l : List Upd) : updsB l = (l.map updB).flatten := by simp [updsB, List.flatMap]
theorem rUps_back {bs : List UInt8} {e : Nat} (h : (rUps bs e).2.2 = 0) : e = 0 ∧ bs = (numB (rUps bs e).1.length ++ updsB (rUps bs e).1) ++ (rUps bs e).2.1 := by
  unfold rUps at h
  obtain ⟨k1, k2, k3⟩ := rItems_bwd (lay := updB) rUpd_back _ _ _ (rUps bs e).1 (rUps bs e).2.1 (Prod.ext rfl (Prod.ext rfl h))
  obtain ⟨k4, k5⟩ := rNum_back k1
  refine ⟨k4, ?_⟩
  rw [k2, updsB_map, List.append_assoc, ← k3]
  exact k5
theorem rItems_all {α : Type} {f : List UInt8 → Nat → α × List UInt8 × Nat} {p : α → Prop} (hf : ∀ bs e, p (f bs e).1) : ∀ (n : Nat) (bs : List UInt8) (e : Nat), ∀ x ∈ (rItems f n bs e).1, p x
  | 0, bs, e, x, hx => by simp [rItems] at hx
  | n + 1, bs, e, x, hx => by
    unfold rItems at hx
    split at hx
    · rcases List.mem_cons.1 hx with rfl | hx
      · exact hf bs e
      · exact rItems_all hf n _ _ x hx
    · simp at hx
theorem rUpd_wf (bs : List UInt8) (e : Nat) : 0 ≤ (rUpd bs e).1.2.1 ∧ (rUpd bs e).1.2.1 < 4294967296 := by
  simp only [rUpd]
  have := rNum_le true (rNum true bs e 255).2.1 (rNum true bs e 255).2.2 4294967295
  omega
/-- A field that is read. -/
theorem takeF_back {s : Ms × List UInt8 × Nat} {f : Int} (hf : f = 0 ∨ f = 1 ∨ f = 2 ∨ f = 3 ∨ f = 4) (h : (takeF s f).2.2 = 0) (hw : wfM s.1) :
    s.2.2 = 0 ∧ s.2.1 = fieldB (takeF s f).1 f ++ (takeF s f).2.1 ∧ wfM (takeF s f).1 ∧ (takeF s f).1.1 = s.1.1 ∧ ∀ f', (f' = 0 ∨ f' = 1 ∨ f' = 2 ∨ f' = 3 ∨ f' = 4) → f' ≠ f → fieldB (takeF s f).1 f' = fieldB s.1 f' := by
  obtain ⟨⟨kd, sq, fr, tg, rp, us⟩, bs, e⟩ := s
  obtain ⟨hw1, hw2⟩ := hw
  dsimp only at hw1 hw2
  rcases hf with rfl | rfl | rfl | rfl | rfl
  · obtain ⟨k1, k2⟩ := rNum_back (most := 4294967295) (bs := bs) (e := e) h
    have := rNum_le true bs e 4294967295
    refine ⟨k1, by simpa [takeF, fieldB] using k2, ⟨by simp [takeF]; omega, hw2⟩, rfl, ?_⟩
    rintro f' (rfl | rfl | rfl | rfl | rfl) hne <;> first | exact absurd rfl hne | rfl
  · obtain ⟨k1, k2⟩ := rNum_back (most := 255) (bs := bs) (e := e) h
    refine ⟨k1, by simpa [takeF, fieldB] using k2, ⟨hw1, hw2⟩, rfl, ?_⟩
    rintro f' (rfl | rfl | rfl | rfl | rfl) hne <;> first | exact absurd rfl hne | rfl
  · obtain ⟨k1, k2⟩ := rNum_back (most := 255) (bs := bs) (e := e) h
    refine ⟨k1, by simpa [takeF, fieldB] using k2, ⟨hw1, hw2⟩, rfl, ?_⟩
    rintro f' (rfl | rfl | rfl | rfl | rfl) hne <;> first | exact absurd rfl hne | rfl
  · obtain ⟨k1, k2⟩ := rFlag_back (bs := bs) (e := e) h
    refine ⟨k1, by simpa [takeF, fieldB] using k2, ⟨hw1, hw2⟩, rfl, ?_⟩
    rintro f' (rfl | rfl | rfl | rfl | rfl) hne <;> first | exact absurd rfl hne | rfl
  · obtain ⟨k1, k2⟩ := rUps_back (bs := bs) (e := e) h
    refine ⟨k1, by simpa [takeF, fieldB] using k2, ⟨hw1, ?_⟩, rfl, ?_⟩
    · intro u hu
      exact rItems_all (p := fun u : Upd => 0 ≤ u.2.1 ∧ u.2.1 < 4294967296) rUpd_wf _ _ _ u hu
    · rintro f' (rfl | rfl | rfl | rfl | rfl) hne <;> first | exact absurd rfl hne | rfl
theorem foldl_back : ∀ (L : List Int) (s : Ms × List UInt8 × Nat), (∀ f ∈ L, f = 0 ∨ f = 1 ∨ f = 2 ∨ f = 3 ∨ f = 4) → L.Nodup → (L.foldl takeF s).2.2 = 0 → wfM s.1 →
    s.2.2 = 0 ∧ s.2.1 = layL (L.foldl takeF s).1 L ++ (L.foldl takeF s).2.1 ∧ wfM (L.foldl takeF s).1 ∧ (L.foldl takeF s).1.1 = s.1.1 ∧ ∀ f', (f' = 0 ∨ f' = 1 ∨ f' = 2 ∨ f' = 3 ∨ f' = 4) → f' ∉ L → fieldB (L.foldl takeF s).1 f' = fieldB s.1 f'
  | [], s, _, _, h, hw => ⟨h, by simp [layL], hw, rfl, fun _ _ _ => rfl⟩
  | f :: L, s, hL, hn, h, hw => by
    rw [List.foldl_cons] at h ⊢
    have hf := hL f List.mem_cons_self
    obtain ⟨hn1, hn2⟩ := List.nodup_cons.1 hn
    have hw1 : wfM (takeF s f).1 := by
      obtain ⟨⟨kd, sq, fr, tg, rp, us⟩, bs, e⟩ := s
      obtain ⟨hw1, hw2⟩ := hw
      dsimp only at hw1 hw2
      rcases hf with rfl | rfl | rfl | rfl | rfl
      · have := rNum_le true bs e 4294967295
        exact ⟨by simp [takeF]; omega, hw2⟩
      · exact ⟨hw1, hw2⟩
      · exact ⟨hw1, hw2⟩
      · exact ⟨hw1, hw2⟩
      · exact ⟨hw1, fun u hu => rItems_all (p := fun u : Upd => 0 ≤ u.2.1 ∧ u.2.1 < 4294967296) rUpd_wf _ _ _ u hu⟩
    obtain ⟨k1, k2, k3, k4, k5⟩ := foldl_back L (takeF s f) (fun g hg => hL g (List.mem_cons_of_mem _ hg)) hn2 h hw1
    obtain ⟨j1, j2, j3, j4, j5⟩ := takeF_back hf k1 hw
    refine ⟨j1, ?_, k3, k4.trans j4, fun f' h1 h2 => ?_⟩
    · rw [j2, k2, ← k5 f hf hn1]
      simp [layL]
    · rw [k5 f' h1 (fun h => h2 (List.mem_cons_of_mem _ h)), j5 f' h1 (fun h => h2 (h ▸ List.mem_cons_self))]
theorem fieldsL_nodup (k : Int) : (fieldsL k).Nodup := by
  unfold fieldsL
  split
  · decide
  split
  · decide
  split
  · decide
  split
  · decide
  · decide
/-- What is told as a message is just what it lays. -/
theorem get_put {K : Int} {bs : List UInt8} (h : getE K bs = 0) : (1 ≤ K ∧ K ≤ 6) ∧ getM K bs = (getS K bs).1 ∧ rightM (getM K bs) = true ∧ wfM (getM K bs) ∧ bodyL (getM K bs) = bs ∧ (getM K bs).1 = K := by
  have hM : getM K bs = (getS K bs).1 := if_pos h
  unfold getE at h
  by_cases h1 : fieldsL K = []
  · rw [if_pos h1] at h; cases h
  rw [if_neg h1] at h
  have hK : 1 ≤ K ∧ K ≤ 6 := by
    apply Classical.byContradiction
    intro hc
    exact h1 ((fieldsL_nil K).2 hc)
  by_cases h2 : rDone (getS K bs).2.1 (getS K bs).2.2 = 0
  · rw [if_neg (by omega)] at h
    by_cases h3 : rightM (getS K bs).1 = true
    · have h4 : (getS K bs).2.2 = 0 ∧ (getS K bs).2.1 = [] := by
        unfold rDone at h2
        split at h2
        · rename_i h5; exact absurd h2 h5
        · rename_i h5
          split at h2
          · cases h2
          · rename_i h6; exact ⟨by omega, List.eq_nil_of_length_eq_zero (by omega)⟩
      obtain ⟨_, k2, k3, k4, _⟩ := foldl_back (fieldsL K) ((K, 0, 0, 0, false, []), bs, 0) (fun f hf => fieldsL_mem hf) (fieldsL_nodup K) h4.1 ⟨by simp, by simp⟩
      refine ⟨hK, hM, by rw [hM]; exact h3, by rw [hM]; exact k3, ?_, by rw [hM]; exact k4⟩
      have k2' : bs = layL (getS K bs).1 (fieldsL K) ++ (getS K bs).2.1 := k2
      have k4' : (getS K bs).1.1 = K := k4
      rw [h4.2, List.append_nil] at k2'
      rw [hM, bodyL, k4']
      exact k2'.symm
    · rw [if_neg h3] at h; cases h
  · rw [if_pos h2] at h; exact absurd h h2
/-- The fields of a message, laid, are read. -/
def getF (m s : Ms) (f : Int) : Ms :=
  if f = 0 then (s.1, m.2.1, s.2.2) else if f = 1 then (s.1, s.2.1, m.2.2.1, s.2.2.2) else if f = 2 then (s.1, s.2.1, s.2.2.1, m.2.2.2.1, s.2.2.2.2) else if f = 3 then (s.1, s.2.1, s.2.2.1, s.2.2.2.1, m.2.2.2.2.1, s.2.2.2.2.2) else (s.1, s.2.1, s.2.2.1, s.2.2.2.1, s.2.2.2.2.1, m.2.2.2.2.2)
theorem rUpd_fwd {u : Upd} (h : (0 ≤ u.1 ∧ u.1 < 8) ∧ (0 ≤ u.2.1 ∧ u.2.1 < 4294967296) ∧ (0 ≤ u.2.2 ∧ u.2.2 ≤ 3)) (rest : List UInt8) : rUpd (updB u ++ rest) 0 = (u, rest, 0) := by
  obtain ⟨a, b, c⟩ := u
  obtain ⟨⟨a0, a1⟩, ⟨b0, b1⟩, ⟨c0, c1⟩⟩ := h
  dsimp only at a0 a1 b0 b1 c0 c1
  simp only [rUpd, updB, List.append_assoc]
  rw [rNum_fwd (by omega) (by omega)]
  simp only
  rw [rNum_fwd (by omega) (by omega)]
  simp only
  rw [rNum_fwd (by omega) (by omega)]
  simp only [Prod.mk.injEq, and_true]
  omega
theorem takeF_fwd {m s : Ms} (h : inM m) {f : Int} (hf : f = 0 ∨ f = 1 ∨ f = 2 ∨ f = 3 ∨ f = 4) (rest : List UInt8) : takeF (s, fieldB m f ++ rest, 0) f = (getF m s f, rest, 0) := by
  obtain ⟨kd, sq, fr, tg, rp, us⟩ := m
  obtain ⟨⟨s0, s1⟩, ⟨f0, f1⟩, ⟨t0, t1⟩, hl, hu⟩ := h
  dsimp only at s0 s1 f0 f1 t0 t1 hl hu
  rcases hf with rfl | rfl | rfl | rfl | rfl
  · simp [takeF, fieldB, getF]
    rw [rNum_fwd (by omega) (by omega)]
    simp only [Prod.mk.injEq, and_true, true_and]
    omega
  · simp [takeF, fieldB, getF]
    rw [rNum_fwd (by omega) (by omega)]
    simp only [Prod.mk.injEq, and_true, true_and]
    omega
  · simp [takeF, fieldB, getF]
    rw [rNum_fwd (by omega) (by omega)]
    simp only [Prod.mk.injEq, and_true, true_and]
    omega
  · have := rFlag_fwd rp rest
    simp only [takeF, fieldB, getF]
    simp [this]
  · have h1 : rUps (fieldB (kd, sq, fr, tg, rp, us) 4 ++ rest) 0 = (us, rest, 0) := by
      simp only [rUps]
      rw [show fieldB (kd, sq, fr, tg, rp, us) 4 = numB us.length ++ updsB us from rfl, List.append_assoc, rNum_fwd (by omega) (by omega)]
      simp only
      rw [updsB_map, rItems_fwd us (fun u hu' rest => rUpd_fwd (hu u hu') rest)]
    simp only [takeF, getF]
    simp [h1]
theorem foldl_fwd {m : Ms} (h : inM m) : ∀ (L : List Int) (s : Ms) (rest : List UInt8), (∀ f ∈ L, f = 0 ∨ f = 1 ∨ f = 2 ∨ f = 3 ∨ f = 4) → L.foldl takeF (s, layL m L ++ rest, 0) = (L.foldl (getF m) s, rest, 0)
  | [], s, rest, _ => rfl
  | f :: L, s, rest, hL => by
    rw [List.foldl_cons, List.foldl_cons, show layL m (f :: L) ++ rest = fieldB m f ++ (layL m L ++ rest) from by simp [layL], takeF_fwd h (hL f List.mem_cons_self)]
    exact foldl_fwd h L _ rest (fun g hg => hL g (List.mem_cons_of_mem _ hg))
theorem put_get {m : Ms} (hr : rightM m = true) (hw : wfM m) : getE m.1 (bodyL m) = 0 ∧ getM m.1 (bodyL m) = m := by
  have hin := inM_of hr hw
  obtain ⟨⟨k1, k6⟩, _⟩ := rightM_parts hr
  have hS : getS m.1 (bodyL m) = ((fieldsL m.1).foldl (getF m) (m.1, 0, 0, 0, false, []), [], 0) := by
    have := foldl_fwd hin (fieldsL m.1) (m.1, 0, 0, 0, false, []) [] (fun f hf => fieldsL_mem hf)
    rw [List.append_nil] at this
    exact this
  have hF : (fieldsL m.1).foldl (getF m) (m.1, 0, 0, 0, false, []) = m := by
    obtain ⟨kd, sq, fr, tg, rp, us⟩ := m
    dsimp only at k1 k6 hr ⊢
    have hk : kd = 1 ∨ kd = 2 ∨ kd = 3 ∨ kd = 4 ∨ kd = 5 ∨ kd = 6 := by omega
    unfold rightM at hr
    dsimp only at hr
    simp only [Bool.and_eq_true, Bool.or_eq_true, decide_eq_true_eq, Bool.not_eq_true'] at hr
    obtain ⟨⟨⟨⟨⟨_, h1⟩, h2⟩, h3⟩, h4⟩, _⟩ := hr
    rcases hk with rfl | rfl | rfl | rfl | rfl | rfl <;>
      simp only [fieldsL, hasL] at h1 h2 h3 h4 <;>
      simp [fieldsL, getF] <;> simp at h1 h2 h3 h4 <;> simp_all
  have hne : fieldsL m.1 ≠ [] := by rw [Ne, fieldsL_nil]; omega
  have hE : getE m.1 (bodyL m) = 0 := by
    unfold getE
    rw [if_neg hne, hS, hF]
    simp [rDone, hr]
  exact ⟨hE, by rw [getM, if_pos hE, hS]; exact hF⟩
end Go.Proofs.Ytmahjeafoogamaa
