/- Messages: packets: Pack, the reference's Pack. -/
import Derived.Test.YtmahjeafoogamaaSpeechPuts
import Derived.Test.YtmahjeafoogamaaFramePackets
import Derived.Test.YtmahjeafoogamaaAppendR
namespace Go.Proofs.Ytmahjeafoogamaa
open Go.RowKit
set_option linter.unusedVariables false
set_option linter.unusedSimpArgs false
/-- A message's frame. -/
def msFr (m : Ms) : Fr := (UInt8.ofNat m.1.toNat, bodyL m)
/-- Why messages are no packet; 0: they are one. -/
def packSE (l : List Ms) : Nat := if l.all rightM = true then packE (l.map msFr) else 2
def SPacks (w : World) (l : List Ms) (e : Ending) (w' : World) : Prop :=
  Chg nob w w' ∧ ((packSE l ≠ 0 ∧ e = .returned (.tuple #[.slice none 0 0, .int .i64 (packSE l)])) ∨
    (packSE l = 0 ∧ ∃ A n c, e = .returned (.tuple #[.slice A n c, .int .i64 0]) ∧ (packB (l.map msFr)).length = n ∧ n ≤ c ∧ Kd.byte.C w' (fun b => w.heap.size ≤ b) A (packB (l.map msFr))))
theorem ms_at {w : World} {ok : Nat → Prop} {A : Option Addr} {xs : List Ms} (h : msK.C w ok A xs) {j : Nat} {x : Ms} (hx : xs[j]? = some x) :
    ∃ b o B d, A = some ⟨b, o, none⟩ ∧ ok b ∧ w.cell? ⟨b, o + j * 6, none⟩ = some (.int .i64 x.1) ∧ w.cell? ⟨b, o + j * 6 + 1, none⟩ = some (.int .u32 x.2.1) ∧ w.cell? ⟨b, o + j * 6 + 2, none⟩ = some (.int .i64 x.2.2.1) ∧ w.cell? ⟨b, o + j * 6 + 3, none⟩ = some (.int .i64 x.2.2.2.1) ∧
      w.cell? ⟨b, o + j * 6 + 4, none⟩ = some (.bool x.2.2.2.2.1) ∧ w.cell? ⟨b, o + j * 6 + 5, none⟩ = some (.slice B x.2.2.2.2.2.length d) ∧ x.2.2.2.2.2.length ≤ d ∧ updK.C w ok B x.2.2.2.2.2 := by
  obtain ⟨b, o, c, e, hb, hk, hc⟩ := Kd.C_at' h hx
  obtain ⟨B, d, rfl, h5, hl⟩ := ms_cells hk
  exact ⟨b, o, B, d, e, hb, hc 0 _ rfl, hc 1 _ rfl, hc 2 _ rfl, hc 3 _ rfl, hc 4 _ rfl, hc 5 _ rfl, hl, h5⟩
theorem kind_u8 {m : Ms} (h : rightM m = true) : ((msFr m).1.toNat : Int) = m.1 := by
  obtain ⟨⟨k1, k6⟩, _⟩ := rightM_parts h
  show (((UInt8.ofNat m.1.toNat).toNat : Nat) : Int) = m.1
  rw [UInt8.toNat_ofNat_of_lt' (by show m.1.toNat < 256; omega)]
  omega
set_option maxRecDepth 100000 in
set_option maxHeartbeats 2000000 in
theorem s_pack {w : World} {A : Option Addr} {n c : Nat} {l : List Ms} (hl : msK.C w (fun b => b < w.heap.size) A l) (hn : l.length = n) (hw : ∀ m ∈ l, wfM m) (hbig : n ≤ 2199023255552) :
    Calls Try.prog 18 #[.slice A n c] w (SPacks w l) := by
  have hsm := hl.small
  rw [hn] at hsm
  have HX := Lib.hid hl
  have HN := Lib.hid hn
  have HW := Lib.hid hw
  have HF0 : Hid ((l.take 0).all rightM = true) := rfl
  have HR0 : Hid (frK.R 28 w w.heap.size (fun b => w.heap.size ≤ b) (.slice none 0 0) ((l.take 0).map msFr)) := Kd.R_nil _ _ _ _ _
  have HS0 := Lib.hid (Chg.refl nob w)
  clear hl hn hw
  go_enter Try.func18, Try.ntmps18
  go_wp2
  go_loopw [4, 11] (fun vb i wr => ∃ (j : Nat) (Y : Option Addr) (y : Nat), j ≤ n ∧ vb = .slice Y j y ∧ i = .int .i64 j ∧ Hid ((l.take j).all rightM = true) ∧ Hid (frK.R 28 wr w.heap.size (fun b => w.heap.size ≤ b) (.slice Y j y) ((l.take j).map msFr)) ∧ Hid (Chg nob w wr)) (fun _ i _ => n - (intOf i).toNat)
  case atStart => exact ⟨0, none, 0, Nat.zero_le _, rfl, rfl, HF0, HR0, HS0⟩
  case round =>
    obtain ⟨j, Y, y, hj1, rfl, rfl, HF, HR, HS⟩ := hrel
    clear HF0 HR0 HS0
    by_cases hlt : j < n
    · have b1 : (j : Int) < (n : Int) := by omega
      have b3 : (0 : Int) ≤ (j : Int) := by omega
      obtain ⟨m, hm⟩ : ∃ m, l[j]? = some m := ⟨_, List.getElem?_eq_getElem (by rw [HN.out]; exact hlt)⟩
      obtain ⟨kd, sq, fr, tg, rp, us⟩ := m
      obtain ⟨lb, lo, B, d, rfl, _, c0, c1, c2, c3, c4, c5, hnd, hu⟩ := ms_at (Kd.C_new HX.out HS.out) hm
      dsimp only at c0 c1 c2 c3 c4 c5 hnd hu
      obtain ⟨nu, hnu⟩ : ∃ q, us.length = q := ⟨_, rfl⟩
      rw [hnu] at c5 hnd
      have HNU := Lib.hid hnu
      have hcA := (Chg.refl nob wr).alloc (.cells (msV (kd, sq, fr, tg, rp, us) B nu d) 25)
      have HCA := Lib.hid hcA
      have HU := Lib.hid (Kd.C_new hu hcA)
      have HM := Lib.hid hm
      have HWM := Lib.hid (HW.out _ (List.mem_of_getElem? hm))
      obtain ⟨q0, q1, q2, q3, q4, q5⟩ := row6c (heap_alloc_new wr (.cells (msV (kd, sq, fr, tg, rp, us) B nu d) 25))
      clear hm hu hnu hcA
      go_wp2_with fail
      refine (s_put (m := (kd, sq, fr, tg, rp, us)) HU.out HNU.out HWM.out).mono ?_
      rintro e w3 ⟨hc3, ⟨hr, rfl⟩ | ⟨hr, A3, n3, d3, rfl, hn3, hnd3, hC3⟩⟩
      · have HP : Hid (packSE l = 2) := by
          refine if_neg (fun h => ?_)
          have := List.all_eq_true.1 h _ (List.mem_of_getElem? HM.out)
          rw [hr] at this
          cases this
        have hca4 := (Chg.refl nob w3).alloc (.cells #[.int .u8 0, .slice none 0 0] 28)
        have HFIN := Lib.hid ((HS.out.thenNew (HCA.out.thenNew hc3)).thenNew hca4)
        clear hc3 hr hca4 q0 q1 q2 q3 q4 q5 c0 c1 c2 c3 c4 c5
        go_wp2
        go_ret2
        rw [SPacks, HP.out]
        exact ⟨HFIN.out, .inl ⟨by decide, rfl⟩⟩
      · have HKU := Lib.hid (kind_u8 hr)
        have HF2 : Hid ((l.take (j + 1)).all rightM = true) := by
          obtain ⟨hj, he⟩ := List.getElem?_eq_some_iff.1 HM.out
          show _ = _
          rw [List.take_succ_eq_append_getElem hj, he, List.all_append, HF.out]
          simp [hr]
        have HTK : Hid ((l.take (j + 1)).map msFr = (l.take j).map msFr ++ [msFr (kd, sq, fr, tg, rp, us)]) := by
          obtain ⟨hj, he⟩ := List.getElem?_eq_some_iff.1 HM.out
          show _ = _
          rw [List.take_succ_eq_append_getElem hj, he, List.map_append]
          rfl
        have hku := HKU.out
        dsimp only at hku hn3 hC3 ⊢
        rw [← hku]
        have hca4 := (Chg.refl nob w3).alloc (.cells #[.int .u8 (msFr (kd, sq, fr, tg, rp, us)).1.toNat, .slice A3 n3 d3] 28)
        have HC4 := Lib.hid ((HS.out.thenNew (HCA.out.thenNew hc3)).thenNew hca4)
        have HK4 : Hid (frK.K (w3.alloc (.cells #[.int .u8 (msFr (kd, sq, fr, tg, rp, us)).1.toNat, .slice A3 n3 d3] 28)) (fun b => (wr.alloc (.cells (msV (kd, sq, fr, tg, rp, us) B nu d) 25)).heap.size ≤ b) (msFr (kd, sq, fr, tg, rp, us)) (#[.int .u8 (msFr (kd, sq, fr, tg, rp, us)).1.toNat, .slice A3 n3 d3] : Array Value).toList) :=
          frK_mk (f := msFr (kd, sq, fr, tg, rp, us)) (Kd.C_new hC3 hca4) hn3 hnd3
        have HR4 := Lib.hid (Kd.R_new HR.out ((HCA.out.thenNew hc3).thenNew hca4))
        have HNE : Hid (∀ k, (wr.alloc (.cells (msV (kd, sq, fr, tg, rp, us) B nu d) 25)).heap.size ≤ k → some k ≠ (Value.slice Y j y).ownBlock) := fun k hk e => by
          have := (Kd.R_own HR.out k e.symm).2
          simp at hk
          omega
        have HB4 : Hid (w.heap.size ≤ (w3.alloc (.cells #[.int .u8 (msFr (kd, sq, fr, tg, rp, us)).1.toNat, .slice A3 n3 d3] 28)).heap.size) := HC4.out.size
        have HLN : Hid (((l.take j).map msFr).length + 1 = j + 1) := by show _ = _; rw [List.length_map, List.length_take, HN.out]; omega
        have HWS := Lib.hid HS.out.size
        obtain ⟨r0, r1⟩ := row2s (heap_alloc_new w3 (.cells #[.int .u8 (msFr (kd, sq, fr, tg, rp, us)).1.toNat, .slice A3 n3 d3] 28))
        have hsz4 : (w3.alloc (.cells #[.int .u8 (msFr (kd, sq, fr, tg, rp, us)).1.toNat, .slice A3 n3 d3] 28)).heap.size = w3.heap.size + 1 := by simp
        have HSZ4 := Lib.hid hsz4
        clear hc3 hr hca4 q0 q1 q2 q3 q4 q5 c0 c1 c2 c3 c4 c5 hku hn3 hC3 hsz4
        go_wp2_with (at_builtin; refine wp_app1Fr rfl _ _ rfl w.heap.size _ _ (.slice Y j y) ((l.take j).map msFr) (msFr (kd, sq, fr, tg, rp, us)) _ rfl (w3.heap.size + 1) HSZ4.out rfl HR4.out HK4.out HNE.out HB4.out (j + 1) HLN.out (by omega) ?_)
        intro A5 c5 w5 hR5 hC5 _
        have HR5 : Hid (frK.R 28 w5 w.heap.size (fun b => w.heap.size ≤ b) (.slice A5 (j + 1) c5) ((l.take (j + 1)).map msFr)) := by
          show Kd.R _ _ _ _ _ _ _
          rw [HTK.out, List.map_take]
          refine Kd.R_mono hR5 ?_
          rintro k ⟨h | h | h, _⟩
          · exact h
          · have := HWS.out; omega
          · have := HWS.out; have := HCA.out.size; have h3 := HC4.out.size; simp at h3; omega
        have HS5 : Hid (Chg nob w w5) := ((HC4.out.ofNew (S := fun k => some k = (Value.slice Y j y).ownBlock)).trans hC5 (fun i hi => .inl hi)).mono (fun i hi => .inr (Kd.R_own HR4.out i hi.symm).1)
        clear hR5 hC5 r0 r1
        go_wp2
        exact ⟨⟨j + 1, A5, c5, by omega, rfl, by go_num, HF2, HR5, HS5⟩, by simp [intOf]; omega⟩
    · obtain rfl : j = n := by omega
      have b1 : ¬ (j : Int) < (j : Int) := by omega
      have hall : l.all rightM = true := by
        have := HF.out
        rw [← HN.out, List.take_length] at this
        exact this
      have HPE : Hid (packSE l = packE (l.map msFr)) := if_pos hall
      obtain ⟨k1, k2, _⟩ := Kd.R_read HR.out
      have ht : l.take j = l := by rw [← HN.out, List.take_length]
      rw [ht] at k1 k2
      have HL := Lib.hid (Kd.C_mono (Kd.C_bound k1) (ok' := fun b => b < wr.heap.size) (fun b hb => hb.2))
      have HK2 := Lib.hid k2
      clear hall k1 k2 ht HF HR
      go_wp2_with fail
      refine (f_pack HL.out HK2.out).mono ?_
      rintro e w3 ⟨hc3, ⟨he, rfl⟩ | ⟨he, A2, n2, c2, rfl, hn2, hc22, hC2⟩⟩
      · have HFIN := Lib.hid (HS.out.thenNew hc3)
        have HNE := Lib.hid he
        obtain ⟨E, hE⟩ : ∃ E, packE (l.map msFr) = E := ⟨_, rfl⟩
        rw [hE] at HPE HNE ⊢
        clear hc3 he hE
        go_wp2
        go_ret2
        rw [SPacks, HPE.out]
        exact ⟨HFIN.out, .inl ⟨HNE.out, rfl⟩⟩
      · rw [he] at HPE
        have HFIN := Lib.hid (HS.out.thenNew hc3)
        have HC2 : Hid (Kd.byte.C w3 (fun b => w.heap.size ≤ b) A2 (packB (l.map msFr))) := Kd.C_mono hC2 (fun b hb => Nat.le_trans HS.out.size hb)
        have HN2 := Lib.hid hn2
        clear hc3 he hC2 hn2
        go_wp2
        go_ret2
        rw [SPacks, HPE.out]
        exact ⟨HFIN.out, .inr ⟨rfl, A2, n2, c2, rfl, HN2.out, hc22, HC2.out⟩⟩
/-- Within the reference's statement: the messages, the frames so far. -/
structure RpSt (w0 : World) (A : Option Addr) (l : List Ms) (Y : Option Addr) (j y : Nat) (fs : List Fr) (w : World) : Prop where
  ms : msK.C w (fun b => b < w0.heap.size) A l
  fs : frK.R 28 w w0.heap.size (fun b => w0.heap.size ≤ b) (.slice Y j y) fs
  chg : Chg nob w0 w
theorem RpSt.new {w0 : World} {A : Option Addr} {l : List Ms} {Y : Option Addr} {j y : Nat} {fs : List Fr} {w w' : World} (h : RpSt w0 A l Y j y fs w) (hc : Chg nob w w') : RpSt w0 A l Y j y fs w' :=
  ⟨Kd.C_new h.ms hc, Kd.R_new h.fs hc, h.chg.thenNew hc⟩
/-- The messages, and the one that is read. -/
structure RqSt (w0 : World) (A : Option Addr) (l : List Ms) (lb lo : Nat) (m : Ms) (B : Option Addr) (n d : Nat) (w : World) : Prop where
  ms : msK.C w (fun b => b < w0.heap.size) A l
  chg : Chg nob w0 w
  row : w.cell? ⟨lb, lo, none⟩ = some (.int .i64 m.1) ∧ w.cell? ⟨lb, lo + 1, none⟩ = some (.int .u32 m.2.1) ∧ w.cell? ⟨lb, lo + 2, none⟩ = some (.int .i64 m.2.2.1) ∧ w.cell? ⟨lb, lo + 3, none⟩ = some (.int .i64 m.2.2.2.1) ∧ w.cell? ⟨lb, lo + 4, none⟩ = some (.bool m.2.2.2.2.1) ∧ w.cell? ⟨lb, lo + 5, none⟩ = some (.slice B n d)
  us : updK.C w (fun b => b < w0.heap.size) B m.2.2.2.2.2
  lt : lb < w0.heap.size
theorem RqSt.turn {S : Nat → Prop} {w0 : World} {A : Option Addr} {l : List Ms} {lb lo : Nat} {m : Ms} {B : Option Addr} {n d : Nat} {w w' : World} (h : RqSt w0 A l lb lo m B n d w) (hc : Chg S w w') (hs : ∀ b, S b → w0.heap.size ≤ b) : RqSt w0 A l lb lo m B n d w' :=
  have hn : ¬ S lb := fun e => by have := hs _ e; have := h.lt; omega
  ⟨Kd.C_chg h.ms hc (fun b hb e => by have := hs _ e; omega), ((h.chg.ofNew (S := S)).trans hc (fun i hi => .inl hi)).mono (fun i hi => .inr (hs i hi)), ⟨hc.cell h.row.1 hn, hc.cell h.row.2.1 hn, hc.cell h.row.2.2.1 hn, hc.cell h.row.2.2.2.1 hn, hc.cell h.row.2.2.2.2.1 hn, hc.cell h.row.2.2.2.2.2 hn⟩, Kd.C_chg h.us hc (fun b hb e => by have := hs _ e; omega), h.lt⟩
theorem RqSt.new {w0 : World} {A : Option Addr} {l : List Ms} {lb lo : Nat} {m : Ms} {B : Option Addr} {n d : Nat} {w w' : World} (h : RqSt w0 A l lb lo m B n d w) (hc : Chg nob w w') : RqSt w0 A l lb lo m B n d w' := h.turn hc (fun _ hb => hb.elim)
theorem fr_info2 : (Try.prog.info? 28).map (fun i => (i.zero, i.size, i.bytes)) = some (some (.agg #[.int .u8 0, .slice none 0 0]), 2, 32) := by kernel_rfl
set_option maxRecDepth 100000 in
set_option maxHeartbeats 2000000 in
theorem r_pack13 {w : World} {A : Option Addr} {n c : Nat} {l : List Ms} (hl : msK.C w (fun b => b < w.heap.size) A l) (hn : l.length = n) (hw : ∀ m ∈ l, wfM m) (hbig : n ≤ 2199023255552) :
    Calls Try.prog 19 #[.slice A n c] w (SPacks w l) := by
  have hsm := hl.small
  rw [hn] at hsm
  have HN := Lib.hid hn
  have HW := Lib.hid hw
  have HF0 : Hid ((l.take 0).all rightM = true) := rfl
  have HS0 : Hid (RpSt w A l none 0 0 ((l.take 0).map msFr) w) := ⟨hl, Kd.R_nil _ _ _ _ _, Chg.refl nob w⟩
  clear hl hn hw
  go_enter Try.func19, Try.ntmps19
  go_wp2
  go_loopw [4, 5] (fun vb i wr => ∃ (j : Nat) (Y : Option Addr) (y : Nat), j ≤ n ∧ vb = .slice Y j y ∧ i = .int .i64 j ∧ Hid ((l.take j).all rightM = true) ∧ Hid (RpSt w A l Y j y ((l.take j).map msFr) wr)) (fun _ i _ => n - (intOf i).toNat)
  case atStart => exact ⟨0, none, 0, Nat.zero_le _, rfl, rfl, HF0, HS0⟩
  case round =>
    obtain ⟨j, Y, y, hj1, rfl, rfl, HF, HS⟩ := hrel
    clear HF0 HS0
    by_cases hlt : j < n
    · have b1 : (j : Int) < (n : Int) := by omega
      have b3 : (0 : Int) ≤ (j : Int) := by omega
      obtain ⟨m, hm⟩ : ∃ m, l[j]? = some m := ⟨_, List.getElem?_eq_getElem (by rw [HN.out]; exact hlt)⟩
      obtain ⟨kd, sq, fr, tg, rp, us⟩ := m
      obtain ⟨lb, lo, B, d, rfl, _, c0, c1, c2, c3, c4, c5, hnd, hu⟩ := ms_at HS.out.ms hm
      dsimp only at c0 c1 c2 c3 c4 c5 hnd hu
      obtain ⟨nu, hnu⟩ : ∃ q, us.length = q := ⟨_, rfl⟩
      rw [hnu] at c5 hnd
      have HNU := Lib.hid hnu
      have HU := Lib.hid hu
      have HM := Lib.hid hm
      have HWM := Lib.hid (HW.out _ (List.mem_of_getElem? hm))
      clear hm hu hnu
      go_wp2_with fail
      refine (r_rightM (m := (kd, sq, fr, tg, rp, us)) HU.out HNU.out).mono ?_
      rintro e w3 ⟨rfl, hc3⟩
      obtain ⟨b, hR⟩ : ∃ b, rightM (kd, sq, fr, tg, rp, us) = b := ⟨_, rfl⟩
      rw [hR]
      have HR := Lib.hid hR
      have HS3 := Lib.hid (HS.out.new hc3)
      clear hR hc3 c0 c1 c2 c3 c4 c5
      cases b
      · have HP : Hid (packSE l = 2) := by
          refine if_neg (fun h => ?_)
          have := List.all_eq_true.1 h _ (List.mem_of_getElem? HM.out)
          rw [HR.out] at this
          cases this
        go_wp2
        go_ret2
        rw [SPacks, HP.out]
        exact ⟨HS3.out.chg, .inl ⟨by decide, rfl⟩⟩
      · have HKU := Lib.hid (kind_u8 HR.out)
        have HF2 : Hid ((l.take (j + 1)).all rightM = true) := by
          obtain ⟨hj, he⟩ := List.getElem?_eq_some_iff.1 HM.out
          show _ = _
          rw [List.take_succ_eq_append_getElem hj, he, List.all_append, HF.out]
          simp [HR.out]
        have HTK : Hid ((l.take (j + 1)).map msFr = (l.take j).map msFr ++ [msFr (kd, sq, fr, tg, rp, us)]) := by
          obtain ⟨hj, he⟩ := List.getElem?_eq_some_iff.1 HM.out
          show _ = _
          rw [List.take_succ_eq_append_getElem hj, he, List.map_append]
          rfl
        obtain ⟨⟨k1, k6⟩, _⟩ := rightM_parts HR.out
        dsimp only at k1 k6
        have wk : IntKind.u8.wrap kd = kd := Int.emod_eq_of_lt (by omega) (by show kd < 256; omega)
        obtain ⟨lb', lo', B', d', e', plt, p0, p1, p2, p3, p4, p5, _, pu⟩ := ms_at HS3.out.ms HM.out
        cases e'
        dsimp only at p0 p1 p2 p3 p4 p5 pu
        rw [HNU.out] at p5
        have HQ : Hid (RqSt w (some ⟨lb, lo, none⟩) l lb (lo + j * 6) (kd, sq, fr, tg, rp, us) B' nu d' w3) := ⟨HS3.out.ms, HS3.out.chg, ⟨p0, p1, p2, p3, p4, p5⟩, pu, plt⟩
        have HFS := Lib.hid (Kd.R_new HS3.out.fs ((Chg.refl nob w3).drew))
        clear p0 p1 p2 p3 p4 p5 pu HU
        go_wp2
        refine wp_region_held_drew (S := fun wx => RqSt w (some ⟨lb, lo, none⟩) l lb (lo + j * 6) (kd, sq, fr, tg, rp, us) B' nu d' wx) (by kernel_rfl) (HQ.out.new ((Chg.refl _ _).drew)) (fun hHeld => ?_)
        refine wpAnyH_take (i := 0) (v := ?_) pick0 (by kernel_rfl) (by kernel_rfl) (by kernel_rfl) (fun _ _ _ h => h) (Or.inl ⟨by rfl, ?_⟩) (by assumption) ?_
        rotate_left 1
        · (intro wx hSw; go_simp; try with_reducible rfl)
        try simp only [Act.put, List.setIfInBounds_toArray, List.set_cons_zero, List.set_cons_succ]
        refine wpAnyH_take (i := 1) (v := ?_) (pickS pick0) (by kernel_rfl) (by kernel_rfl) (by kernel_rfl) (fun _ _ _ h => h) (Or.inl ⟨by rfl, ?_⟩) (by assumption) ?_
        rotate_left 1
        · (intro wx hSw; go_simp; try with_reducible rfl)
        try simp only [Act.put, List.setIfInBounds_toArray, List.set_cons_zero, List.set_cons_succ]
        refine wpAnyH_take (i := 2) (v := ?_) (pickS (pickS pick0)) (by kernel_rfl) (by kernel_rfl) (by kernel_rfl) (fun _ _ _ h => h) (Or.inl ⟨by rfl, ?_⟩) (by assumption) ?_
        rotate_left 1
        · (intro wx hSw; go_simp; try with_reducible rfl)
        try simp only [Act.put, List.setIfInBounds_toArray, List.set_cons_zero, List.set_cons_succ]
        refine wpAnyH_take (i := 3) (v := ?_) (pickS (pickS (pickS pick0))) (by kernel_rfl) (by kernel_rfl) (by kernel_rfl) (fun _ _ _ h => h) (Or.inl ⟨by rfl, ?_⟩) (by assumption) ?_
        rotate_left 1
        · (intro wx hSw; go_simp; try with_reducible rfl)
        try simp only [Act.put, List.setIfInBounds_toArray, List.set_cons_zero, List.set_cons_succ]
        refine wpAnyH_take (i := 4) (v := ?_) (pickS (pickS (pickS (pickS pick0)))) (by kernel_rfl) (by kernel_rfl) (by kernel_rfl) (fun _ _ _ h => h) (Or.inl ⟨by rfl, ?_⟩) (by assumption) ?_
        rotate_left 1
        · (intro wx hSw; go_simp; try with_reducible rfl)
        try simp only [Act.put, List.setIfInBounds_toArray, List.set_cons_zero, List.set_cons_succ]
        refine wpAnyH_take (i := 5) (v := ?_) (pickS (pickS (pickS (pickS (pickS pick0))))) (by kernel_rfl) (by kernel_rfl) (by kernel_rfl) (fun _ _ _ h => h) (Or.inl ⟨by rfl, ?_⟩) (by assumption) ?_
        rotate_left 1
        · (intro wx hSw; obtain ⟨q0, q1, q2, q3, q4, q5⟩ := hSw.row; go_simp; try with_reducible rfl)
        try simp only [Act.put, List.setIfInBounds_toArray, List.set_cons_zero, List.set_cons_succ]
        refine wpAnyH_take (i := 6) (v := ?_) (pickS (pickS (pickS (pickS (pickS (pickS pick0)))))) (by kernel_rfl) (by kernel_rfl) (by kernel_rfl) (fun _ _ _ h => h) (Or.inl ⟨by rfl, ?_⟩) (by assumption) ?_
        rotate_left 1
        · (intro wx hSw; have wk' := wk; go_simp; try with_reducible rfl)
        try simp only [Act.put, List.setIfInBounds_toArray, List.set_cons_zero, List.set_cons_succ]
        refine wpAnyH_take (i := 7) (v := ?_) (pickS (pickS (pickS (pickS (pickS (pickS (pickS pick0))))))) (by kernel_rfl) (by kernel_rfl) (by kernel_rfl) (fun _ _ _ h => h) (Or.inl ⟨by rfl, ?_⟩) (by assumption) ?_
        rotate_left 1
        · (intro wx hSw; go_simp; try with_reducible rfl)
        try simp only [Act.put, List.setIfInBounds_toArray, List.set_cons_zero, List.set_cons_succ]
        refine wpAnyH_take (i := 8) (v := ?_) (pickS (pickS (pickS (pickS (pickS (pickS (pickS (pickS pick0)))))))) (by kernel_rfl) (by kernel_rfl) (by kernel_rfl) (fun _ _ _ h => h) (Or.inl ⟨by rfl, ?_⟩) (by assumption) ?_
        rotate_left 1
        · (intro wx hSw; go_simp; try with_reducible rfl)
        try simp only [Act.put, List.setIfInBounds_toArray, List.set_cons_zero, List.set_cons_succ]
        refine wpAnyH_take (i := 9) (v := ?_) (pickS (pickS (pickS (pickS (pickS (pickS (pickS (pickS (pickS pick0))))))))) (by kernel_rfl) (by kernel_rfl) (by kernel_rfl) (fun _ _ _ h => h) (Or.inl ⟨by rfl, ?_⟩) (by assumption) ?_
        rotate_left 1
        · (intro wx hSw; go_simp; try with_reducible rfl)
        try simp only [Act.put, List.setIfInBounds_toArray, List.set_cons_zero, List.set_cons_succ]
        refine wpAnyH_take (i := 10) (v := ?_) (pickS (pickS (pickS (pickS (pickS (pickS (pickS (pickS (pickS (pickS pick0)))))))))) (by kernel_rfl) (by kernel_rfl) (by kernel_rfl) (fun _ _ _ h => h) (Or.inl ⟨by rfl, ?_⟩) (by assumption) ?_
        rotate_left 1
        · (intro wx hSw; obtain ⟨q0, q1, q2, q3, q4, q5⟩ := hSw.row; go_simp; try with_reducible rfl)
        try simp only [Act.put, List.setIfInBounds_toArray, List.set_cons_zero, List.set_cons_succ]
        refine wpAnyH_ready (rs := [11]) (by kernel_rfl) (by simp) ?_
        refine AllReadyH.cons (pickS (pickS (pickS (pickS (pickS (pickS (pickS (pickS (pickS (pickS (pickS pick0))))))))))) (fun K hK => ?_) AllReadyH.nil
        go_simp
        refine (r_body (m := (kd, sq, fr, tg, rp, us)) hHeld.us (fun b hb => Nat.lt_of_lt_of_le hb hHeld.chg.size) HNU.out HR.out HWM.out).mono ?_
        intro e w6 hL6
        obtain ⟨A6, c6, rfl, hL6'⟩ := laid_slice hL6
        have HN6 := Lib.hid (hHeld.new (laid_C hL6').2.2.2.2)
        have HD6 := Lib.hid hHeld
        have HFS6 := Lib.hid (Kd.R_new HFS.out (laid_C hL6').2.2.2.2)
        have HL6 := Lib.hid hL6'
        clear hL6 hL6' hHeld
        go_wp2_with fail
        refine hK.out _ _ (HN6.out) (fun hHeld => ?_)
        clear hK K
        try simp only [Act.put, List.setIfInBounds_toArray, List.set_cons_zero, List.set_cons_succ]
        refine wpAnyH_ready (rs := [12]) (by kernel_rfl) (by simp) ?_
        refine AllReadyH.cons (pickS (pickS (pickS (pickS (pickS (pickS (pickS (pickS (pickS (pickS (pickS (pickS pick0)))))))))))) (fun K hK => ?_) AllReadyH.nil
        go_simp
        refine hK.out _ _ (HN6.out) (fun hHeld => ?_)
        clear hK K
        try simp only [Act.put, List.setIfInBounds_toArray, List.set_cons_zero, List.set_cons_succ]
        refine wpAnyH_ready (rs := [13]) (by kernel_rfl) (by simp) ?_
        refine AllReadyH.cons (pickS (pickS (pickS (pickS (pickS (pickS (pickS (pickS (pickS (pickS (pickS (pickS (pickS pick0))))))))))))) (fun K hK => ?_) AllReadyH.nil
        go_simp
        have hca := (Chg.refl nob w6).alloc (.cells #[.int .u8 kd, .slice A6 (bodyL (kd, sq, fr, tg, rp, us)).length c6] 28)
        have HCA := Lib.hid hca
        have HN7 := Lib.hid (HN6.out.new hca)
        clear hca
        refine hK.out _ _ (HN7.out) (fun hHeld => ?_)
        clear hK K
        try simp only [Act.put, List.setIfInBounds_toArray, List.set_cons_zero, List.set_cons_succ]
        refine wpAnyH_ready (rs := [14]) (by kernel_rfl) (by simp) ?_
        refine AllReadyH.cons (pickS (pickS (pickS (pickS (pickS (pickS (pickS (pickS (pickS (pickS (pickS (pickS (pickS (pickS pick0)))))))))))))) (fun K hK => ?_) AllReadyH.nil
        have hku : (((msFr (kd, sq, fr, tg, rp, us)).1.toNat : Nat) : Int) = kd := HKU.out
        have hk6 : frK.K w6 (fun b => w3.drew.heap.size ≤ b) (msFr (kd, sq, fr, tg, rp, us)) (#[.int .u8 kd, .slice A6 (bodyL (kd, sq, fr, tg, rp, us)).length c6] : Array Value).toList := by have h := frK_mk (f := msFr (kd, sq, fr, tg, rp, us)) (laid_C HL6.out).1 rfl (laid_C HL6.out).2.2.1; rw [hku] at h; exact h
        refine step_append1 rfl _ _ 42 rfl 28 _ 32 Try.underlying42 fr_info2 rfl w.heap.size _ _ (.slice Y j y) ((l.take j).map msFr) (msFr (kd, sq, fr, tg, rp, us)) _ w6.heap.size rfl rfl rfl HFS6.out hk6 ?_ ?_ ?_ HN6.out.chg.size (j + 1) ?_ ?_
        · intro k hk e; have h1 := (Kd.R_own HFS.out k e.symm).2; omega
        · rw [List.length_map, List.length_take]; unfold maxLen; omega
        · rw [List.length_map, List.length_take]; omega
        · rw [List.length_map, List.length_take, HN.out]; omega
        intro A8 c8 w8 hR8 hC8 _
        have HR8 : Hid (frK.R 28 w8 w.heap.size (fun b => w.heap.size ≤ b) (.slice A8 (j + 1) c8) ((l.take (j + 1)).map msFr)) := by
          show Kd.R _ _ _ _ _ _ _
          rw [HTK.out]
          refine Kd.R_mono hR8 ?_
          have g1 := HD6.out.chg.size
          have g2 := HN6.out.chg.size
          rintro k ⟨h | h | h, _⟩
          · exact h
          · show _ ≤ _; omega
          · show _ ≤ _; omega
        have HS8 : Hid (RpSt w (some ⟨lb, lo, none⟩) l A8 (j + 1) c8 ((l.take (j + 1)).map msFr) w8) := ⟨Kd.C_chg HN6.out.ms hC8 (fun b hb e => by have := (Kd.R_own HFS6.out b e.symm).1; omega), HR8.out, ((HN6.out.chg.ofNew (S := fun k => some k = (Value.slice Y j y).ownBlock)).trans hC8 (fun i hi => .inl hi)).mono (fun i hi => .inr (Kd.R_own HFS6.out i hi.symm).1)⟩
        have HN8 := Lib.hid (HN6.out.turn hC8 (fun i hi => (Kd.R_own HFS6.out i hi.symm).1))
        clear hR8 hC8 hku hk6
        refine hK.out _ _ (HN8.out) (fun hHeld => ?_)
        clear hK K
        try simp only [Act.put, List.setIfInBounds_toArray, List.set_cons_zero, List.set_cons_succ]
        refine wpAnyH_take (i := 15) (v := ?_) (pickS (pickS (pickS (pickS (pickS (pickS (pickS (pickS (pickS (pickS (pickS (pickS (pickS (pickS (pickS pick0))))))))))))))) (by kernel_rfl) (by kernel_rfl) (by kernel_rfl) (fun _ _ _ h => h) (Or.inl ⟨by rfl, ?_⟩) (by assumption) ?_
        rotate_left 1
        · (intro wx hSw; go_simp; try with_reducible rfl)
        try simp only [Act.put, List.setIfInBounds_toArray, List.set_cons_zero, List.set_cons_succ]
        refine wpAnyH_done (by kernel_rfl) ?_ _
        go_wp2
        exact ⟨⟨j + 1, A8, c8, by omega, rfl, by go_num, HF2, HS8⟩, by simp [intOf]; omega⟩
    · obtain rfl : j = n := by omega
      have b1 : ¬ (j : Int) < (j : Int) := by omega
      have hall : l.all rightM = true := by
        have := HF.out
        rw [← HN.out, List.take_length] at this
        exact this
      have HPE : Hid (packSE l = packE (l.map msFr)) := if_pos hall
      obtain ⟨k1, k2, _⟩ := Kd.R_read HS.out.fs
      have ht : l.take j = l := by rw [← HN.out, List.take_length]
      rw [ht] at k1 k2
      have HL := Lib.hid (Kd.C_mono (Kd.C_bound k1) (ok' := fun b => b < wr.heap.size) (fun b hb => hb.2))
      have HK2 := Lib.hid k2
      clear hall k1 k2 ht HF
      go_wp2_with fail
      refine (fr_pack HL.out HK2.out).mono ?_
      rintro e w3 ⟨hc3, ⟨he, rfl⟩ | ⟨he, A2, n2, c2, rfl, hn2, hc22, hC2⟩⟩
      · have HFIN := Lib.hid (HS.out.chg.thenNew hc3)
        have HNE := Lib.hid he
        obtain ⟨E, hE⟩ : ∃ E, packE (l.map msFr) = E := ⟨_, rfl⟩
        rw [hE] at HPE HNE ⊢
        clear hc3 he hE
        go_wp2
        go_ret2
        rw [SPacks, HPE.out]
        exact ⟨HFIN.out, .inl ⟨HNE.out, rfl⟩⟩
      · rw [he] at HPE
        have HFIN := Lib.hid (HS.out.chg.thenNew hc3)
        have HC2 : Hid (Kd.byte.C w3 (fun b => w.heap.size ≤ b) A2 (packB (l.map msFr))) := Kd.C_mono hC2 (fun b hb => Nat.le_trans HS.out.chg.size hb)
        have HN2 := Lib.hid hn2
        clear hc3 he hC2 hn2
        go_wp2
        go_ret2
        rw [SPacks, HPE.out]
        exact ⟨HFIN.out, .inr ⟨rfl, A2, n2, c2, rfl, HN2.out, hc22, HC2.out⟩⟩
end Go.Proofs.Ytmahjeafoogamaa
