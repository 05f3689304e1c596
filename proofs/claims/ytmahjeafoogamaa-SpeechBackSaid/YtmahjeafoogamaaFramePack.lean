/- Frames: packets: Pack, the reference's Pack and Unpack. -/
import Derived.Test.YtmahjeafoogamaaFrameUnpack
namespace Go.Proofs.Ytmahjeafoogamaa
open Go.RowKit
set_option linter.unusedVariables false
set_option linter.unusedSimpArgs false
/-- The first error; 0: none. -/
def firstE : List Fr → Nat
  | [] => 0
  | f :: l => if errF f = 0 then firstE l else errF f
theorem firstE_ok : ∀ {l : List Fr}, firstE l = 0 → ∀ f ∈ l, errF f = 0
  | [], _, f, hf => by cases hf
  | g :: l, h, f, hf => by
    unfold firstE at h
    by_cases hg : errF g = 0
    · rw [if_pos hg] at h
      rcases List.mem_cons.1 hf with rfl | hf
      · exact hg
      · exact firstE_ok h f hf
    · rw [if_neg hg] at h; exact absurd h hg
theorem firstE_of : ∀ {l : List Fr}, (∀ f ∈ l, errF f = 0) → firstE l = 0
  | [], _ => rfl
  | g :: l, h => by rw [firstE, if_pos (h g List.mem_cons_self)]; exact firstE_of (fun f hf => h f (List.mem_cons_of_mem _ hf))
theorem firstE_app : ∀ {l r : List Fr}, firstE l = 0 → firstE (l ++ r) = firstE r
  | [], r, _ => rfl
  | g :: l, r, h => by
    have hg := firstE_ok h g List.mem_cons_self
    rw [List.cons_append, firstE, if_pos hg]
    rw [firstE, if_pos hg] at h
    exact firstE_app h
theorem firstE_one (f : Fr) (r : List Fr) : firstE (f :: r) = if errF f = 0 then firstE r else errF f := rfl
/-- Why frames are no packet; 0: they are one. -/
def packE (l : List Fr) : Nat := if firstE l ≠ 0 then firstE l else if l.length < 1 ∨ 32 < l.length then 5 else if 1400 < (packB l).length then 5 else 0
def Packs (w : World) (l : List Fr) (e : Ending) (w' : World) : Prop :=
  Chg nob w w' ∧ ((packE l ≠ 0 ∧ e = .returned (.tuple #[.slice none 0 0, .int .i64 (packE l)])) ∨
    (packE l = 0 ∧ ∃ A n c, e = .returned (.tuple #[.slice A n c, .int .i64 0]) ∧ (packB l).length = n ∧ n ≤ c ∧ Kd.byte.C w' (fun b => w.heap.size ≤ b) A (packB l)))
theorem packB_le (l r : List Fr) : (packB l).length ≤ (packB (l ++ r)).length := by simp [packB]
theorem take_split {xs : List Fr} {k : Nat} {f : Fr} (hf : xs[k]? = some f) : xs.take (k + 1) = xs.take k ++ [f] ∧ xs = xs.take k ++ f :: xs.drop (k + 1) := by
  obtain ⟨hj, he⟩ := List.getElem?_eq_some_iff.1 hf
  have h1 : xs.take (k + 1) = xs.take k ++ [f] := by rw [List.take_succ_eq_append_getElem hj, he]
  refine ⟨h1, ?_⟩
  have := (List.take_append_drop (k + 1) xs).symm
  rw [h1, List.append_assoc] at this
  exact this
set_option maxRecDepth 100000 in
set_option maxHeartbeats 2000000 in
theorem f_pack {w : World} {LA : Option Addr} {ln lc : Nat} {xs : List Fr} (hx : frK.C w (fun b => b < w.heap.size) LA xs) (hn : xs.length = ln) :
    Calls Try.prog 38 #[.slice LA ln lc] w (Packs w xs) := by
  have hsm := hx.small
  rw [hn] at hsm
  have HX := Lib.hid hx
  have HN := Lib.hid hn
  have HS0 := Lib.hid (Chg.refl nob w)
  have HF0 : Hid (firstE (xs.take 0) = 0) := rfl
  clear hx hn
  go_enter Try.func38, Try.ntmps38
  go_wp2
  go_loopw [13] (fun i wr => ∃ k : Nat, k ≤ ln ∧ i = .int .i64 k ∧ Hid (firstE (xs.take k) = 0) ∧ Hid (Chg nob w wr)) (fun i _ => ln - (intOf i).toNat)
  case atStart => exact ⟨0, Nat.zero_le _, rfl, HF0, HS0⟩
  case round =>
    obtain ⟨k, hk1, rfl, HF, HS⟩ := hrel
    clear HS0 HF0
    by_cases hlt : k < ln
    · have b1 : (k : Int) < (ln : Int) := by omega
      have b3 : (0 : Int) ≤ (k : Int) := by omega
      obtain ⟨f, hf⟩ : ∃ f, xs[k]? = some f := ⟨_, List.getElem?_eq_getElem (by rw [HN.out]; exact hlt)⟩
      obtain ⟨lb, lo, FB, fd, rfl, _, c0, c1, hfd, hfb⟩ := fr_at (Kd.C_new HX.out HS.out) hf
      have HTK := Lib.hid (take_split hf)
      obtain ⟨fl, hfl⟩ : ∃ q, f.2.length = q := ⟨_, rfl⟩
      rw [hfl] at hfd c1
      have HFL := Lib.hid hfl
      have hcA := (Chg.refl nob wr).alloc (.cells #[.int .u8 f.1.toNat, .slice FB fl fd] 28)
      have HCA := Lib.hid hcA
      have HFB := Lib.hid (Kd.C_new hfb hcA)
      obtain ⟨q0, q1⟩ := row2c (heap_alloc_new wr (.cells #[.int .u8 f.1.toNat, .slice FB fl fd] 28))
      clear hf hfb hfl hcA
      go_wp2_with fail
      refine (f_put (k := f.1) (A := none) (n := 0) (c := 0) (bs := []) (ok1 := fun _ => False) (Kd.C_nil _ _ _ _) HFB.out rfl HFL.out hfd (by decide)).mono ?_
      rintro e w2 ⟨hc2, hor⟩
      by_cases he : errF f = 0
      · rcases hor with ⟨hn, _⟩ | ⟨_, A2, c2, rfl, hl2, hm2, hC2⟩
        · exact absurd he hn
        have HF2 : Hid (firstE (xs.take (k + 1)) = 0) := by show _ = _; rw [HTK.out.1, firstE_app HF.out, firstE_one, if_pos he]; rfl
        have HS2 := Lib.hid (HS.out.thenNew (HCA.out.thenNew hc2))
        clear hc2 hl2 hm2 hC2 he q0 q1 c0 c1
        go_wp2
        exact ⟨⟨k + 1, by omega, by go_num, HF2, HS2⟩, by simp [intOf]; omega⟩
      · have hE0 : ((errF f : Int) == 0) = false := by simp; omega
        rcases hor with ⟨_, rfl⟩ | ⟨hn, _⟩
        · have HFE : Hid (firstE xs = errF f) := by show _ = _; rw [HTK.out.2, firstE_app HF.out, firstE_one, if_neg he]
          have HPE : Hid (packE xs = errF f) := by show _ = _; rw [packE, HFE.out, if_pos he]
          have HS2 := Lib.hid (HS.out.thenNew (HCA.out.thenNew hc2))
          have HNE := Lib.hid he
          obtain ⟨E1, hE1⟩ : ∃ q, errF f = q := ⟨_, rfl⟩
          rw [show errF (f.1, f.2) = errF f from rfl, hE1]
          rw [hE1] at hE0 HPE HNE
          clear hc2 he hE1 q0 q1 c0 c1 HFE
          go_wp2
          go_ret2
          rw [Packs, HPE.out]
          exact ⟨HS2.out, .inl ⟨HNE.out, rfl⟩⟩
        · exact absurd hn he
    · obtain rfl : k = ln := by omega
      have b1 : ¬ (k : Int) < (k : Int) := by omega
      have HF1 : Hid (firstE xs = 0) := by
        have := HF.out
        rw [← HN.out, List.take_length] at this
        exact this
      by_cases h0 : k = 0
      · subst h0
        have HPE : Hid (packE xs = 5) := by show _ = _; rw [packE, HF1.out, if_neg (by omega), if_pos (.inl (by rw [HN.out]; omega))]
        go_wp2
        go_ret2
        rw [Packs, HPE.out]
        exact ⟨HS.out, .inl ⟨by decide, rfl⟩⟩
      have hk0 : ((k : Int) == 0) = false := by simp; omega
      by_cases h32 : 32 < k
      · have b32 : (32 : Int) < (k : Int) := by omega
        have HPE : Hid (packE xs = 5) := by show _ = _; rw [packE, HF1.out, if_neg (by omega), if_pos (.inr (by rw [HN.out]; omega))]
        go_wp2
        go_ret2
        rw [Packs, HPE.out]
        exact ⟨HS.out, .inl ⟨by decide, rfl⟩⟩
      have b32 : ¬ (32 : Int) < (k : Int) := by omega
      have HPE : Hid (packE xs = if 1400 < (packB xs).length then 5 else 0) := by show _ = _; rw [packE, HF1.out, if_neg (by omega), if_neg (by rw [HN.out]; omega)]
      clear HF
      go_wp2
      go_loopw [8, 36] (fun vb i wx => ∃ (j : Nat) (B : Option Addr) (mb cb : Nat), j ≤ k ∧ vb = .slice B mb cb ∧ i = .int .i64 j ∧ mb ≤ cb ∧ mb ≤ 1400 ∧ Hid ((packB (xs.take j)).length = mb) ∧ Hid (Kd.byte.C wx (fun b => w.heap.size ≤ b) B (packB (xs.take j))) ∧ Hid (Chg nob w wx)) (fun _ i _ => k - (intOf i).toNat)
      case atStart => exact ⟨0, none, 0, 0, Nat.zero_le _, rfl, rfl, Nat.le_refl _, by decide, rfl, Kd.C_nil _ _ _ _, HS⟩
      case round =>
        obtain ⟨j, B, mb, cb, hj1, rfl, rfl, hmb, hmm, HML, HB, HSx⟩ := hrel
        by_cases hlt : j < k
        · have b1 : (j : Int) < (k : Int) := by omega
          have b3 : (0 : Int) ≤ (j : Int) := by omega
          obtain ⟨f, hf⟩ : ∃ f, xs[j]? = some f := ⟨_, List.getElem?_eq_getElem (by rw [HN.out]; exact hlt)⟩
          obtain ⟨lb, lo, FB, fd, rfl, _, c0, c1, hfd, hfb⟩ := fr_at (Kd.C_new HX.out HSx.out) hf
          have HTK := Lib.hid (take_split hf)
          have he : errF f = 0 := firstE_ok HF1.out f (List.mem_of_getElem? hf)
          obtain ⟨fl, hfl⟩ : ∃ q, f.2.length = q := ⟨_, rfl⟩
          rw [hfl] at hfd c1
          have HFL := Lib.hid hfl
          have hsmall : fl ≤ 1000 := by rw [← hfl]; exact good_small he
          have hcA := (Chg.refl nob wr).alloc (.cells #[.int .u8 f.1.toNat, .slice FB fl fd] 28)
          have HCA := Lib.hid hcA
          have HFB := Lib.hid (Kd.C_new hfb hcA)
          have HBA := Lib.hid (Kd.C_new HB.out hcA)
          obtain ⟨q0, q1⟩ := row2c (heap_alloc_new wr (.cells #[.int .u8 f.1.toNat, .slice FB fl fd] 28))
          clear hf hfb hfl hcA HB
          go_wp2_with fail
          refine (f_put (k := f.1) HBA.out HFB.out HML.out HFL.out hfd (by omega)).mono ?_
          rintro e w2 ⟨hc2, hor⟩
          rcases hor with ⟨hn, _⟩ | ⟨_, A2, c2, rfl, hl2, hm2, hC2⟩
          · exact absurd he hn
          have HC2 : Hid (Kd.byte.C w2 (fun b => w.heap.size ≤ b) A2 (packB (xs.take (j + 1)))) := by
            rw [HTK.out.1, packB_snoc]
            exact Kd.C_mono hC2 (fun b hb => by have h1 := HSx.out.size; have h2 := HCA.out.size; show _ ≤ _; omega)
          have HM2 : Hid ((packB (xs.take (j + 1))).length = mb + (fl + 7)) := by show _ = _; rw [HTK.out.1, packB_snoc, List.length_append, frameB_len, HML.out, HFL.out]
          have HS2 := Lib.hid (HSx.out.thenNew (HCA.out.thenNew hc2))
          clear hc2 hl2 hC2 he q0 q1 c0 c1
          by_cases hbig : 1400 < mb + (fl + 7)
          · have b14 : (1400 : Int) < (mb : Int) + ((fl : Int) + 7) := by omega
            have HP5 : Hid (packE xs = 5) := by
              show _ = _
              rw [HPE.out, if_pos]
              have h1 := packB_le (xs.take (j + 1)) (xs.drop (j + 1))
              rw [List.take_append_drop, HM2.out] at h1
              omega
            go_wp2
            go_ret2
            rw [Packs, HP5.out]
            exact ⟨HS2.out, .inl ⟨by decide, rfl⟩⟩
          · have b14 : ¬ (1400 : Int) < (mb : Int) + ((fl : Int) + 7) := by omega
            go_wp2
            exact ⟨⟨j + 1, A2, mb + (fl + 7), c2, by omega, rfl, by go_num, hm2, by omega, HM2, HC2, HS2⟩, by simp [intOf]; omega⟩
        · obtain rfl : j = k := by omega
          have b1 : ¬ (j : Int) < (j : Int) := by omega
          have hall : xs.take j = xs := by rw [← HN.out, List.take_length]
          have HP0 : Hid (packE xs = 0) := by
            show _ = _
            rw [HPE.out, if_neg]
            have := HML.out
            rw [hall] at this
            omega
          rw [hall] at HML HB
          clear hall
          go_wp2
          go_ret2
          rw [Packs, HP0.out]
          exact ⟨HSx.out, .inr ⟨rfl, B, mb, cb, rfl, HML.out, hmb, HB.out⟩⟩
end Go.Proofs.Ytmahjeafoogamaa
