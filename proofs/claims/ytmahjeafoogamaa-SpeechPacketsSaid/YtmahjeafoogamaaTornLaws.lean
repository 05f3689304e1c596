/- Plain laws of frames, one behind the other, torn off anywhere; nothing here speaks of the program. -/
import Derived.Test.YtmahjeafoogamaaFrameLaws
namespace Go.Proofs.Ytmahjeafoogamaa
set_option linter.unusedVariables false
/-- Where the first k frames end. -/
def plen (fs : List Fr) (k : Nat) : Nat := (packB (fs.take k)).length
theorem plen_zero (fs : List Fr) : plen fs 0 = 0 := rfl
theorem plen_succ {fs : List Fr} {k : Nat} {f : Fr} (h : fs[k]? = some f) : plen fs (k + 1) = plen fs k + (f.2.length + 7) := by
  obtain ⟨hk, he⟩ := List.getElem?_eq_some_iff.1 h
  unfold plen
  rw [List.take_succ_eq_append_getElem hk, he, packB_snoc, List.length_append, frameB_len]
theorem plen_all (fs : List Fr) : plen fs fs.length = (packB fs).length := by unfold plen; rw [List.take_length]
theorem plen_le {fs : List Fr} {j k : Nat} (h : j ≤ k) (hk : k ≤ fs.length) : plen fs j ≤ plen fs k := by
  induction k with
  | zero => have : j = 0 := by omega
            subst this; exact Nat.le_refl _
  | succ k ih =>
    by_cases e : j = k + 1
    · subst e; exact Nat.le_refl _
    · obtain ⟨f, hf⟩ : ∃ f, fs[k]? = some f := ⟨_, List.getElem?_eq_getElem (by omega)⟩
      have := ih (by omega) (by omega)
      rw [plen_succ hf]
      omega
/-- Just so many frames are whole. -/
def whole (fs : List Fr) (at_ K : Nat) : Prop := K ≤ fs.length ∧ plen fs K ≤ at_ ∧ ∀ k, K ≤ k → k < fs.length → at_ < plen fs (k + 1)
theorem whole_is (fs : List Fr) (at_ : Nat) : ∃ K, whole fs at_ K := by
  have h : ∀ n, n ≤ fs.length → ∃ K, K ≤ n ∧ plen fs K ≤ at_ ∧ ∀ k, K ≤ k → k < n → at_ < plen fs (k + 1) := by
    intro n
    induction n with
    | zero => exact fun _ => ⟨0, Nat.le_refl _, by rw [plen_zero]; exact Nat.zero_le _, fun k _ hk => absurd hk (Nat.not_lt_zero _)⟩
    | succ n ih =>
      intro hn
      obtain ⟨K, h1, h2, h3⟩ := ih (by omega)
      by_cases hle : plen fs (n + 1) ≤ at_
      · exact ⟨n + 1, Nat.le_refl _, hle, fun k hk1 hk2 => by omega⟩
      · refine ⟨K, by omega, h2, fun k hk1 hk2 => ?_⟩
        by_cases e : k = n
        · subst e; omega
        · exact h3 k hk1 (by omega)
  obtain ⟨K, h1, h2, h3⟩ := h fs.length (Nat.le_refl _)
  exact ⟨K, h1, h2, h3⟩
theorem whole_below {fs : List Fr} {at_ K k : Nat} (h : whole fs at_ K) (hk : k < K) : plen fs (k + 1) ≤ at_ :=
  Nat.le_trans (plen_le (by omega) h.1) h.2.1
theorem torn_all {fs : List Fr} (hok : ∀ f ∈ fs, errF f = 0) {at_ K : Nat} (h : whole fs at_ K) (hat : at_ ≤ (packB fs).length) :
    allR ((packB fs).take at_) = (fs.take K, plen fs K, if at_ = plen fs K then 0 else 30) := by
  obtain ⟨h1, h2, h3⟩ := h
  have hokK : ∀ f ∈ fs.take K, errF f = 0 := fun f hf => hok f (List.mem_of_mem_take hf)
  have hsplit : packB fs = packB (fs.take K) ++ packB (fs.drop K) := by
    unfold packB
    rw [← List.flatMap_append, List.take_append_drop]
  by_cases e : at_ = plen fs K
  · rw [if_pos e]
    have : (packB fs).take at_ = packB (fs.take K) := by
      rw [e, hsplit]
      unfold plen
      rw [List.take_left]
    rw [this, allR_of_pack hokK]
    rfl
  · rw [if_neg e]
    have hlt : K < fs.length := by
      rcases Nat.lt_or_ge K fs.length with h4 | h4
      · exact h4
      · have : K = fs.length := by omega
        subst this
        rw [plen_all] at h2 e
        omega
    obtain ⟨f, hf⟩ : ∃ f, fs[K]? = some f := ⟨_, List.getElem?_eq_getElem hlt⟩
    have hff : errF f = 0 := hok f (List.mem_of_getElem? hf)
    have h5 := h3 K (Nat.le_refl _) hlt
    rw [plen_succ hf] at h5
    have hd : packB (fs.drop K) = frameB f ++ packB (fs.drop (K + 1)) := by
      obtain ⟨hk, he⟩ := List.getElem?_eq_some_iff.1 hf
      rw [List.drop_eq_getElem_cons hk, he]
      rfl
    have ht : (packB fs).take at_ = packB (fs.take K) ++ (frameB f).take (at_ - plen fs K) := by
      rw [hsplit, hd, List.take_append, List.take_of_length_le (by show plen fs K ≤ at_; omega), List.take_append_of_le_length (by rw [frameB_len]; show at_ - plen fs K ≤ _; omega)]
      rfl
    have hne := take_torn hff (n := at_ - plen fs K) (by omega) (by rw [frameB_len]; omega)
    rw [ht, allR_pack _ _ hokK, allR_err (by rw [List.length_take, frameB_len]; omega) (by rw [hne]; decide), hne]
    simp [plen]
/-- The ends of frames, in a row. -/
def endsL (fs : List Fr) : List Int := (List.range fs.length).map (fun k => ((plen fs (k + 1) : Nat) : Int))
theorem endsL_len (fs : List Fr) : (endsL fs).length = fs.length := by simp [endsL]
theorem endsL_at {fs : List Fr} {k : Nat} (h : k < fs.length) : (endsL fs)[k]? = some ((plen fs (k + 1) : Nat) : Int) := by
  simp [endsL, h]
theorem plen_snoc (fs : List Fr) (f : Fr) {k : Nat} (h : k ≤ fs.length) : plen (fs ++ [f]) k = plen fs k := by
  unfold plen
  rw [List.take_append_of_le_length h]
theorem endsL_snoc (fs : List Fr) (f : Fr) : endsL (fs ++ [f]) = endsL fs ++ [((plen (fs ++ [f]) (fs.length + 1) : Nat) : Int)] := by
  unfold endsL
  rw [List.length_append, List.length_singleton, List.range_succ, List.map_append]
  congr 1
  apply List.map_congr_left
  intro k hk
  rw [List.mem_range] at hk
  rw [plen_snoc fs f (by omega)]
theorem plen_last (fs : List Fr) (f : Fr) : plen (fs ++ [f]) (fs.length + 1) = (packB fs).length + (f.2.length + 7) := by
  have : fs.length + 1 = (fs ++ [f]).length := by simp
  rw [this, plen_all, packB_snoc, List.length_append, frameB_len]
/-- The frames among some that may be. -/
def goodF (l : List Fr) : List Fr := l.filter (fun f => errF f = 0)
theorem goodF_ok (l : List Fr) : ∀ f ∈ goodF l, errF f = 0 := fun f hf => by simpa using (List.mem_filter.1 hf).2
theorem goodF_snoc_yes {l : List Fr} {f : Fr} (h : errF f = 0) : goodF (l ++ [f]) = goodF l ++ [f] := by simp [goodF, List.filter_append, h]
theorem goodF_snoc_no {l : List Fr} {f : Fr} (h : errF f ≠ 0) : goodF (l ++ [f]) = goodF l := by simp [goodF, List.filter_append, h]
theorem good_small {f : Fr} (h : errF f = 0) : f.2.length ≤ 1000 := by
  unfold errF at h
  split at h
  · cases h
  · split at h
    · cases h
    · omega
theorem packB_small : ∀ {fs : List Fr}, (∀ f ∈ fs, errF f = 0) → (packB fs).length ≤ 1007 * fs.length
  | [], _ => by simp [packB]
  | f :: fs, h => by
    have h1 := good_small (h f List.mem_cons_self)
    have h2 := packB_small (fs := fs) (fun g hg => h g (List.mem_cons_of_mem _ hg))
    rw [packB_cons, List.length_append, frameB_len, List.length_cons]
    omega
theorem goodF_len (l : List Fr) : (goodF l).length ≤ l.length := List.length_filter_le _ _
end Go.Proofs.Ytmahjeafoogamaa
