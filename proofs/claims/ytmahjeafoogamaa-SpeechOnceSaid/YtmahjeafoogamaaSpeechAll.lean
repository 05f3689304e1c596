/- Messages: the reference's All; the walks of SpeechPackets, SpeechBack, SpeechOnce. -/
import Derived.Test.YtmahjeafoogamaaSpeechUnpack
import Derived.Test.YtmahjeafoogamaaSpeechLaws
namespace Go.Proofs.Ytmahjeafoogamaa
open Go.RowKit
set_option linter.unusedVariables false
set_option linter.unusedSimpArgs false
/-- A message that lies at (lb, lo). -/
structure MsAt (ok : Nat → Prop) (lb lo : Nat) (m : Ms) (B : Option Addr) (n d : Nat) (w : World) : Prop where
  row : w.cell? ⟨lb, lo, none⟩ = some (.int .i64 m.1) ∧ w.cell? ⟨lb, lo + 1, none⟩ = some (.int .u32 m.2.1) ∧ w.cell? ⟨lb, lo + 2, none⟩ = some (.int .i64 m.2.2.1) ∧ w.cell? ⟨lb, lo + 3, none⟩ = some (.int .i64 m.2.2.2.1) ∧ w.cell? ⟨lb, lo + 4, none⟩ = some (.bool m.2.2.2.2.1) ∧ w.cell? ⟨lb, lo + 5, none⟩ = some (.slice B n d)
  us : updK.C w ok B m.2.2.2.2.2
  len : m.2.2.2.2.2.length = n
theorem MsAt.new {ok : Nat → Prop} {lb lo : Nat} {m : Ms} {B : Option Addr} {n d : Nat} {w w' : World} (h : MsAt ok lb lo m B n d w) (hc : Chg nob w w') : MsAt ok lb lo m B n d w' :=
  ⟨⟨hc.cell h.row.1 (not_nob _), hc.cell h.row.2.1 (not_nob _), hc.cell h.row.2.2.1 (not_nob _), hc.cell h.row.2.2.2.1 (not_nob _), hc.cell h.row.2.2.2.2.1 (not_nob _), hc.cell h.row.2.2.2.2.2 (not_nob _)⟩, Kd.C_new h.us hc, h.len⟩
theorem ms_at' {w : World} {ok : Nat → Prop} {A : Option Addr} {xs : List Ms} (h : msK.C w ok A xs) {j : Nat} {x : Ms} (hx : xs[j]? = some x) : ∃ b o B n d, A = some ⟨b, o, none⟩ ∧ MsAt ok b (o + j * 6) x B n d w := by
  obtain ⟨b, o, B, d, e, _, c0, c1, c2, c3, c4, c5, _, hu⟩ := ms_at h hx
  exact ⟨b, o, B, _, d, e, ⟨c0, c1, c2, c3, c4, c5⟩, hu, rfl⟩
set_option maxRecDepth 100000 in
set_option maxHeartbeats 1000000 in
theorem r_all13 {w : World} {okA okB : Nat → Prop} {A B : Option Addr} {n c d : Nat} {xs : List Ms} (hx : msK.C w okA A xs) (hy : msK.C w okB B xs) (hn : xs.length = n) :
    Calls Try.prog 22 #[.slice A n c, .slice B n d] w fun e w' => e = .returned (.bool true) ∧ Chg nob w w' := by
  have hsm := hx.small
  rw [hn] at hsm
  have HX := Lib.hid hx
  have HY := Lib.hid hy
  have HN := Lib.hid hn
  have HS0 := Lib.hid (Chg.refl nob w)
  clear hx hy hn
  go_enter Try.func22, Try.ntmps22
  go_wp2
  go_loopw [5] (fun i wr => ∃ k : Nat, k ≤ n ∧ i = .int .i64 k ∧ Hid (Chg nob w wr)) (fun i _ => n - (intOf i).toNat)
  case atStart => exact ⟨0, Nat.zero_le _, rfl, HS0⟩
  case round =>
    obtain ⟨k, hk1, rfl, HS⟩ := hrel
    clear HS0
    by_cases hlt : k < n
    · have b1 : (k : Int) < (n : Int) := by omega
      have b3 : (0 : Int) ≤ (k : Int) := by omega
      obtain ⟨f, hf⟩ : ∃ f, xs[k]? = some f := ⟨_, List.getElem?_eq_getElem (by rw [HN.out]; exact hlt)⟩
      obtain ⟨kd, sq, fr, tg, rp, us⟩ := f
      obtain ⟨lb, lo, B1, n1, d1, rfl, h1⟩ := ms_at' (Kd.C_new HX.out HS.out) hf
      obtain ⟨mb, mo, B2, n2, d2, rfl, h2⟩ := ms_at' (Kd.C_new HY.out HS.out) hf
      have H1 := Lib.hid h1
      have H2 := Lib.hid h2
      clear hf h1 h2
      go_wp2
      refine wp_region_held_drew (S := fun wx => MsAt okA lb (lo + k * 6) (kd, sq, fr, tg, rp, us) B1 n1 d1 wx ∧ MsAt okB mb (mo + k * 6) (kd, sq, fr, tg, rp, us) B2 n2 d2 wx) (by kernel_rfl) (⟨H1.out.new ((Chg.refl _ _).drew), H2.out.new ((Chg.refl _ _).drew)⟩) (fun hHeld => ?_)
      refine wpAnyH_take (i := 0) (v := ?_) pick0 (by kernel_rfl) (by kernel_rfl) (by kernel_rfl) (fun _ _ _ h => h) (Or.inl ⟨by rfl, ?_⟩) (by assumption) ?_
      rotate_left 1
      · (intro wx hSw; go_simp; try with_reducible rfl)
      try simp only [Act.put, List.setIfInBounds_toArray, List.set_cons_zero, List.set_cons_succ]
      refine wpAnyH_take (i := 1) (v := ?_) (pickS pick0) (by kernel_rfl) (by kernel_rfl) (by kernel_rfl) (fun _ _ _ h => h) (Or.inl ⟨by rfl, ?_⟩) (by assumption) ?_
      rotate_left 1
      · (intro wx hSw; go_simp; try with_reducible rfl)
      try simp only [Act.put, List.setIfInBounds_toArray, List.set_cons_zero, List.set_cons_succ]
      refine wpAnyH_take (i := 2) (v := ?_) (pickS (pickS pick0)) (by kernel_rfl) (by kernel_rfl) (by kernel_rfl) (fun _ _ _ h => h) (Or.inl ⟨by rfl, ?_⟩) (by assumption) ?_
      rotate_left 1
      · (intro wx hSw; go_simp; try with_reducible rfl)
      try simp only [Act.put, List.setIfInBounds_toArray, List.set_cons_zero, List.set_cons_succ]
      refine wpAnyH_take (i := 3) (v := ?_) (pickS (pickS (pickS pick0))) (by kernel_rfl) (by kernel_rfl) (by kernel_rfl) (fun _ _ _ h => h) (Or.inl ⟨by rfl, ?_⟩) (by assumption) ?_
      rotate_left 1
      · (intro wx hSw; obtain ⟨q0, q1, q2, q3, q4, q5⟩ := hSw.1.row; go_simp; try with_reducible rfl)
      try simp only [Act.put, List.setIfInBounds_toArray, List.set_cons_zero, List.set_cons_succ]
      refine wpAnyH_take (i := 4) (v := ?_) (pickS (pickS (pickS (pickS pick0)))) (by kernel_rfl) (by kernel_rfl) (by kernel_rfl) (fun _ _ _ h => h) (Or.inl ⟨by rfl, ?_⟩) (by assumption) ?_
      rotate_left 1
      · (intro wx hSw; go_simp; try with_reducible rfl)
      try simp only [Act.put, List.setIfInBounds_toArray, List.set_cons_zero, List.set_cons_succ]
      refine wpAnyH_take (i := 5) (v := ?_) (pickS (pickS (pickS (pickS (pickS pick0))))) (by kernel_rfl) (by kernel_rfl) (by kernel_rfl) (fun _ _ _ h => h) (Or.inl ⟨by rfl, ?_⟩) (by assumption) ?_
      rotate_left 1
      · (intro wx hSw; go_simp; try with_reducible rfl)
      try simp only [Act.put, List.setIfInBounds_toArray, List.set_cons_zero, List.set_cons_succ]
      refine wpAnyH_take (i := 6) (v := ?_) (pickS (pickS (pickS (pickS (pickS (pickS pick0)))))) (by kernel_rfl) (by kernel_rfl) (by kernel_rfl) (fun _ _ _ h => h) (Or.inl ⟨by rfl, ?_⟩) (by assumption) ?_
      rotate_left 1
      · (intro wx hSw; go_simp; try with_reducible rfl)
      try simp only [Act.put, List.setIfInBounds_toArray, List.set_cons_zero, List.set_cons_succ]
      refine wpAnyH_take (i := 7) (v := ?_) (pickS (pickS (pickS (pickS (pickS (pickS (pickS pick0))))))) (by kernel_rfl) (by kernel_rfl) (by kernel_rfl) (fun _ _ _ h => h) (Or.inl ⟨by rfl, ?_⟩) (by assumption) ?_
      rotate_left 1
      · (intro wx hSw; obtain ⟨q0, q1, q2, q3, q4, q5⟩ := hSw.2.row; go_simp; try with_reducible rfl)
      try simp only [Act.put, List.setIfInBounds_toArray, List.set_cons_zero, List.set_cons_succ]
      refine wpAnyH_ready (rs := [8]) (by kernel_rfl) (by simp) ?_
      refine AllReadyH.cons (pickS (pickS (pickS (pickS (pickS (pickS (pickS (pickS pick0)))))))) (fun K hK => ?_) AllReadyH.nil
      go_simp
      refine (r_sameM (a := (kd, sq, fr, tg, rp, us)) (b := (kd, sq, fr, tg, rp, us)) hHeld.1.us hHeld.2.us hHeld.1.len hHeld.2.len).mono ?_
      rintro e w6 ⟨rfl, hc6⟩
      rw [sameM_refl]
      have HN6 := Lib.hid (And.intro (hHeld.1.new hc6) (hHeld.2.new hc6))
      have HS6 : Hid (Chg nob w w6) := (HS.out.thenNew ((Chg.refl nob wr).drew)).thenNew hc6
      clear hc6 hHeld
      go_wp2_with fail
      refine hK.out _ _ (HN6.out) (fun hHeld => ?_)
      clear hK K
      try simp only [Act.put, List.setIfInBounds_toArray, List.set_cons_zero, List.set_cons_succ]
      refine wpAnyH_take (i := 9) (v := ?_) (pickS (pickS (pickS (pickS (pickS (pickS (pickS (pickS (pickS pick0))))))))) (by kernel_rfl) (by kernel_rfl) (by kernel_rfl) (fun _ _ _ h => h) (Or.inl ⟨by rfl, ?_⟩) (by assumption) ?_
      rotate_left 1
      · (intro wx hSw; go_simp; try with_reducible rfl)
      try simp only [Act.put, List.setIfInBounds_toArray, List.set_cons_zero, List.set_cons_succ]
      refine wpAnyH_done (by kernel_rfl) ?_ _
      go_wp2
      exact ⟨⟨k + 1, by omega, by go_num, HS6⟩, by simp [intOf]; omega⟩
    · obtain rfl : k = n := by omega
      have b1 : ¬ (k : Int) < (k : Int) := by omega
      go_wp2
      go_ret
      exact ⟨rfl, HS.out⟩
/-! ### plain laws of packets -/
theorem msFr_frMs {f : Fr} (h : frE f = 0) : msFr (frMs f) = f ∧ rightM (frMs f) = true ∧ wfM (frMs f) := by
  obtain ⟨_, _, g3, g4, g5, g6⟩ := get_put h
  refine ⟨?_, g3, g4⟩
  unfold msFr
  rw [show frMs f = getM (f.1.toNat : Int) f.2 from rfl, g5, g6]
  show (UInt8.ofNat ((f.1.toNat : Int).toNat), f.2) = f
  rw [Int.toNat_natCast, UInt8.ofNat_toNat]
theorem frMs_msFr {m : Ms} (hr : rightM m = true) (hw : wfM m) : frE (msFr m) = 0 ∧ frMs (msFr m) = m := by
  have hk := kind_u8 hr
  obtain ⟨h1, h2⟩ := put_get hr hw
  unfold frE frMs
  rw [hk]
  exact ⟨h1, h2⟩
theorem firstG_zero : ∀ {l : List Fr}, (∀ f ∈ l, frE f = 0) → firstG l = 0
  | [], _ => rfl
  | f :: l, h => by rw [firstG, if_pos (h f List.mem_cons_self)]; exact firstG_zero (fun g hg => h g (List.mem_cons_of_mem _ hg))
theorem sback {l : List Ms} (h : packSE l = 0) (hw : ∀ m ∈ l, wfM m) : unpSE (packB (l.map msFr)) = 0 ∧ unpSL (packB (l.map msFr)) = l := by
  unfold packSE at h
  split at h
  · rename_i hall
    obtain ⟨k1, k2⟩ := pack_back h
    have hr : ∀ m ∈ l, rightM m = true := fun m hm => List.all_eq_true.1 hall m hm
    have hU : unpSE (packB (l.map msFr)) = 0 := by
      rw [unpSE, if_neg (by omega), k2]
      refine firstG_zero (fun f hf => ?_)
      obtain ⟨m, hm, rfl⟩ := List.mem_map.1 hf
      exact (frMs_msFr (hr m hm) (hw m hm)).1
    refine ⟨hU, ?_⟩
    rw [unpSL, if_pos hU, k2, List.map_map]
    have : ∀ l : List Ms, (∀ m ∈ l, rightM m = true) → (∀ m ∈ l, wfM m) → l.map (frMs ∘ msFr) = l := by
      intro l
      induction l with
      | nil => intro _ _; rfl
      | cons f l ih => intro h1 h2; rw [List.map_cons, ih (fun g hg => h1 g (List.mem_cons_of_mem _ hg)) (fun g hg => h2 g (List.mem_cons_of_mem _ hg))]; show frMs (msFr f) :: l = _; rw [(frMs_msFr (h1 f List.mem_cons_self) (h2 f List.mem_cons_self)).2]
    exact this l hr hw
  · cases h
theorem sonce {bs : List UInt8} (h : unpSE bs = 0) : packSE (unpSL bs) = 0 ∧ packB ((unpSL bs).map msFr) = bs ∧ ∀ m ∈ unpSL bs, wfM m := by
  have hL : unpSL bs = (allR bs).1.map frMs := if_pos h
  unfold unpSE at h
  by_cases h1 : unpE bs = 0
  · rw [if_neg (by omega)] at h
    obtain ⟨k1, k2⟩ := pack_once h1
    have hE := firstG_all h
    have hmm : (unpSL bs).map msFr = (allR bs).1 := by
      rw [hL, List.map_map]
      have : ∀ l : List Fr, (∀ f ∈ l, frE f = 0) → l.map (msFr ∘ frMs) = l := by
        intro l
        induction l with
        | nil => intro _; rfl
        | cons f l ih => intro hl; rw [List.map_cons, ih (fun g hg => hl g (List.mem_cons_of_mem _ hg))]; show msFr (frMs f) :: l = _; rw [(msFr_frMs (hl f List.mem_cons_self)).1]
      exact this _ hE
    have hall : (unpSL bs).all rightM = true := by
      rw [hL, List.all_eq_true]
      intro m hm
      obtain ⟨f, hf, rfl⟩ := List.mem_map.1 hm
      exact (msFr_frMs (hE f hf)).2.1
    refine ⟨by rw [packSE, if_pos hall, hmm]; exact k1, by rw [hmm]; exact k2, fun m hm => ?_⟩
    rw [hL] at hm
    obtain ⟨f, hf, rfl⟩ := List.mem_map.1 hm
    exact (msFr_frMs (hE f hf)).2.2
  · rw [if_pos h1] at h; exact absurd h h1
end Go.Proofs.Ytmahjeafoogamaa
