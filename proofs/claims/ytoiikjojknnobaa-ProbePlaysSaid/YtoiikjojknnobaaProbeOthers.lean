/- The law ProbeOthers: the walk. -/
import Derived.Test.YtoiikjojknnobaaProbeOthPl
import Derived.BigQuiet
import Derived.Deep.CutRange
import Derived.Deep.DeepCutAuto
namespace Go.Proofs.Ytoiikjojknnobaa
open Go.RowKit
set_option linter.unusedVariables false
set_option linter.unusedSimpArgs false
/-- The numbers below j that a test picks. -/
def bitsL (f : Nat → Bool) (j : Nat) : List Int := ((List.range j).filter f).map (fun n : Nat => (n : Int))
theorem bitsL_succ (f : Nat → Bool) (j : Nat) : bitsL f (j + 1) = if f j = true then bitsL f j ++ [(j : Int)] else bitsL f j := by
  unfold bitsL
  rw [List.range_succ, List.filter_append]
  by_cases h : f j = true
  · rw [if_pos h, List.filter_cons, if_pos h, List.filter_nil, List.map_append]; rfl
  · rw [if_neg h, List.filter_cons, if_neg h, List.filter_nil, List.append_nil]
theorem bitsL_le (f : Nat → Bool) (j : Nat) : (bitsL f j).length ≤ j := by
  unfold bitsL
  rw [List.length_map]
  exact Nat.le_trans (List.length_filter_le _ _) (by simp)
theorem bitsL_nodup (f : Nat → Bool) (j : Nat) : (bitsL f j).Nodup := by
  unfold bitsL
  rw [List.Nodup, List.pairwise_map]
  exact List.Pairwise.imp (fun h e => h (by omega)) (List.nodup_range.filter _)
theorem bitsL_mem {f : Nat → Bool} {j : Nat} {x : Int} (h : x ∈ bitsL f j) : 0 ≤ x ∧ x < j := by
  unfold bitsL at h
  obtain ⟨q, hq, rfl⟩ := List.mem_map.1 h
  have := List.mem_range.1 (List.mem_filter.1 hq).1
  omega
theorem p_others {W w : World} {own ok : Nat → Prop} {g k ln lc : Nat} {p L : Option Addr} {xs live : List Int} {s : List Int × Nat} (h : PSt W own g p xs s k w) (hL : intK.C w ok L live) (hln : live.length = ln) (h64 : ln ≤ 64) (hok : ∀ b, ok b → ¬ own b) (but many : Int) :
    Calls Try.prog 15 #[.pointer (some ⟨g, 0, none⟩), .slice L ln lc, .int .i64 but, .int .i64 many, .pointer p] w fun e w' => ∃ A c, e = .returned (.slice A (othersF xs k live but many).1.length c) ∧ (othersF xs k live but many).1.length ≤ c ∧ intK.C w' (fun b => w.heap.size ≤ b) A (othersF xs k live but many).1 ∧ PSt W own g p xs s (othersF xs k live but many).2 w' ∧ Chg own w w' := by
  obtain ⟨okr, okd, h1, h2, h3, h4, h5, h6, h7⟩ := h
  refine (rg_others h1 h2 hL hln h64 (fun b hb e => hok b hb (h4 b (.inr (.inl e)))) (fun b hb => (h5 b (h4 b (.inr (.inl hb)))).2) but many).mono ?_
  rintro e w' ⟨A, c, rfl, a1, a2, a3, a4⟩
  have hc : Chg own w w' := a4.mono (fun b hb => .inl (h4 b (.inr (.inl hb))))
  exact ⟨A, c, rfl, a1, a2, ⟨okr, okd, h1.chg a4 (fun e => (h3 _ e).2 rfl) (fun b hb e => (h3 b e).1 hb), a3, h3, h4, fun b hb => ⟨(h5 b hb).1, Nat.lt_of_lt_of_le (h5 b hb).2 hc.size⟩, h6.trans hc (fun b hb => .inr (h5 b hb).1), h7⟩, hc⟩
/-- Whether a bit is set. -/
def bitF (m : Int) (n : Nat) : Bool := (Go.bits .and .u8 (m / 2 ^ n) 1) == 1
set_option maxRecDepth 100000 in
set_option maxHeartbeats 4000000 in
theorem probeOthers_walk {w : World} {ok : Nat → Prop} {A : Option Addr} {c : Nat} {xs : List Int} (h : (Kd.int .u32).C w ok A xs) (hc : xs.length ≤ c) (hb : ∀ x ∈ xs, 0 ≤ x ∧ x < 4294967296) (m x0 x1 : Int) :
    Calls Try.prog 5 #[.slice A xs.length c, .int .u8 m, .agg #[.int .i64 x0, .int .i64 x1]] w fun e w' => e = .returned (.bool true) ∧ Chg nob w w' := by
  obtain ⟨n, hn⟩ : ∃ n, xs.length = n := ⟨_, rfl⟩
  have HX := Lib.hid h
  have HXN := Lib.hid hn
  have HXC := Lib.hid hc
  have HXB := Lib.hid hb
  have r0 := heap_alloc_new w (.cells #[.int .i64 x0, .int .i64 x1] 38)
  have HC0 := Lib.hid ((Chg.refl nob w).alloc (.cells #[.int .i64 x0, .int .i64 x1] 38))
  have R0 := Lib.hid r0
  rw [hn]
  clear h hn hc hb r0
  go_enter Try.func5, Try.ntmps5
  go_wp2_with fail
  refine (rg_new _).mono ?_
  rintro e w1 ⟨g, rfl, hg, hr, hc1⟩
  go_wp2_with fail
  have hcx : Chg nob w w1 := HC0.out.trans hc1 (fun i hi => .inl hi)
  have hdn := draw_new (c := c) (Kd.C_new HX.out hcx) HXC.out HXB.out
  rw [HXN.out] at hdn
  refine hdn.mono ?_
  rintro e w2 ⟨gd, rfl, hd, hc2⟩
  generalize List.take 4096 xs = ys at hd
  have HS := Lib.hid (p_start hr hg hd hc1 hc2)
  have HB0 : Hid ((w.alloc (.cells #[.int .i64 x0, .int .i64 x1] 38)).heap.size = w.heap.size + 1) := by show _ = _; simp
  have HG := Lib.hid hg
  have R2 := Lib.hid ((hc1.thenNew hc2).heap R0.out (not_nob _))
  have HW2 := Lib.hid (hcx.thenNew hc2)
  have hw2 := (hcx.thenNew hc2).size
  have HR0 : Hid (intK.R 3 w2 w2.heap.size (fun b => some b = (Value.slice none 0 0).ownBlock) (.slice none 0 0) (bitsL (bitF m) 0)) := Kd.R_nil _ _ _ _ _
  have HL0 : Hid ((bitsL (bitF m) 0).length = 0) := rfl
  have HCR := Lib.hid (Chg.refl nob w2)
  clear hdn hg hr hd hc1 hc2 hcx R0 HC0 HX HXN HXC HXB
  go_wp2
  go_loopw [9, 10] (fun v i wr => ∃ (j k : Nat) (V : Option Addr) (cv : Nat), j ≤ 8 ∧ k ≤ j ∧ v = .slice V k cv ∧ i = .int .i64 j ∧ Hid ((bitsL (bitF m) j).length = k) ∧ Hid (intK.R 3 wr w2.heap.size (fun b => some b = (Value.slice V k cv).ownBlock) (.slice V k cv) (bitsL (bitF m) j)) ∧ Hid (Chg nob w2 wr)) (fun v i _ => 8 - (intOf i).toNat)
  case atStart => exact ⟨0, 0, none, 0, Nat.zero_le _, Nat.le_refl _, rfl, rfl, HL0, HR0, HCR⟩
  case round =>
    obtain ⟨j, k, V, cv, hj, hkj, rfl, rfl, HL, HR, HC⟩ := hrel
    clear HR0 HL0 HCR
    by_cases hlt : j < 8
    · have b1 : (j : Int) < 8 := by omega
      have b3 : ¬ (j : Int) < 0 := by omega
      have hsn := bitsL_succ (bitF m) j
      by_cases hbit : bitF m j = true
      · rw [if_pos hbit] at hsn
        have HSN := Lib.hid hsn
        have t : (Go.bits .and .u8 (m / 2 ^ j) 1 == 1) = true := hbit
        clear hsn hbit
        go_wp2_with (at_builtin; refine wp_app1I rfl _ _ rfl w2.heap.size _ (.slice V k cv) (bitsL (bitF m) j) (j : Int) rfl rfl HR.out HC.out.size (k + 1) (by rw [HL.out]) (by omega) ?_)
        intro A5 c5 w5 hR5 hC5 _
        have HL2 : Hid ((bitsL (bitF m) (j + 1)).length = k + 1) := by show _ = _; rw [HSN.out, List.length_append, HL.out]; rfl
        rw [← HSN.out] at hR5
        have HR5 := Lib.hid hR5
        have HC5 : Hid (Chg nob w2 w5) := HC.out.trans hC5 (fun i hi => .inr (Kd.R_own HR.out i hi.symm).1)
        clear hR5 hC5 t
        go_wp2
        exact ⟨⟨j + 1, k + 1, A5, c5, by omega, by omega, rfl, by go_num, HL2, HR5, HC5⟩, by simp [intOf]; omega⟩
      · rw [if_neg hbit] at hsn
        have t : (Go.bits .and .u8 (m / 2 ^ j) 1 == 1) = false := by simpa [bitF] using hbit
        have HL2 : Hid ((bitsL (bitF m) (j + 1)).length = k) := by show _ = _; rw [hsn]; exact HL.out
        have HR5 : Hid (intK.R 3 wr w2.heap.size (fun b => some b = (Value.slice V k cv).ownBlock) (.slice V k cv) (bitsL (bitF m) (j + 1))) := by show intK.R _ _ _ _ _ _; rw [hsn]; exact HR.out
        clear hsn hbit
        go_wp2
        exact ⟨⟨j + 1, k, V, cv, by omega, by omega, rfl, by go_num, HL2, HR5, HC⟩, by simp [intOf]; omega⟩
    · obtain rfl : j = 8 := by omega
      have b1 : ¬ ((8 : Nat) : Int) < 8 := by omega
      have hnd := bitsL_nodup (bitF m) 8
      have hlb := bitsL_le (bitF m) 8
      obtain ⟨all, hall⟩ : ∃ all, bitsL (bitF m) 8 = all := ⟨_, rfl⟩
      have hR := HR.out
      have hL := HL.out
      rw [hall] at hnd hlb hR hL
      obtain ⟨k1, k2, k3⟩ := Kd.R_read (Kd.R_ge Kd.scalar_flat hR)
      have HK := Lib.hid (Kd.C_bound k1)
      have HL2 := Lib.hid hL
      have HOK := Lib.hid (others_ok (xs := ys) (k := 0) (by obtain ⟨_, _, _, h2, _⟩ := HS.out; exact h2.bd) hnd (by omega) x0 x1)
      have HSX := Lib.hid (HS.out.new HC.out)
      have hbox := HC.out.heap R2.out (not_nob _)
      have q0 : wr.cell? ⟨w.heap.size, 0, none⟩ = some (.int .i64 x0) := by rw [cell_of_row _ w.heap.size 0 _ _ _ hbox]; rfl
      have q1 : wr.cell? ⟨w.heap.size, 1, none⟩ = some (.int .i64 x1) := by rw [cell_of_row _ w.heap.size 1 _ _ _ hbox]; rfl
      have Q0 := Lib.hid q0
      have Q1 := Lib.hid q1
      rw [show ((8 : Nat) : Int) = 8 from rfl]
      clear hall hR hL k1 k2 k3 hbox hnd HR HL
      go_wp2_with fail
      refine (p_others HSX.out HK.out HL2.out (by omega) (fun b hb ho => by omega) x0 x1).mono ?_
      rintro e w3 ⟨L, cl, rfl, hcl, hC3, hs3, hc3⟩
      obtain ⟨l, hl⟩ : ∃ l, (othersF ys 0 all x0 x1).1 = l := ⟨_, rfl⟩
      have hok := HOK.out
      rw [hl] at hcl hC3 hok
      obtain ⟨so, hso⟩ : ∃ so, l.length = so := ⟨_, rfl⟩
      have hgo : (othersF ys 0 all x0 x1).1.length = so := by rw [hl, hso]
      rw [hgo]
      rw [hso] at hcl hok
      have HSO := Lib.hid hso
      have HA3 := Lib.hid (Kd.C_chg HK.out hc3 (fun b hb ho => by omega))
      have HL3 := Lib.hid hC3
      have HQ0 := Lib.hid (hc3.cell Q0.out (fun ho => by have h1 : (w.alloc (.cells #[.int .i64 x0, .int .i64 x1] 38)).heap.size ≤ w.heap.size := ho.1; rw [HB0.out] at h1; omega))
      have HQ1 := Lib.hid (hc3.cell Q1.out (fun ho => by have h1 : (w.alloc (.cells #[.int .i64 x0, .int .i64 x1] 38)).heap.size ≤ w.heap.size := ho.1; rw [HB0.out] at h1; omega))
      have hcv := hc3.size
      have HCH : Hid (Chg nob w w3) := (HW2.out.thenNew HC.out).trans hc3 (fun b hb => .inr (by have h1 := hb.1; rw [HB0.out] at h1; omega))
      have HALL : Hid (∀ j y, l[j]? = some y → y ≠ x0 ∧ y ∈ all ∧ y ∉ l.take j) := fun j y hj => ⟨(hok.2.2 y (List.mem_of_getElem? hj)).1, (hok.2.2 y (List.mem_of_getElem? hj)).2, fun hm => by
        obtain ⟨i, hi⟩ := List.mem_iff_getElem?.1 hm
        rw [List.getElem?_take] at hi
        split at hi
        · rename_i hij
          have h1 : i < l.length := (List.getElem?_eq_some_iff.1 hi).1
          have := (List.getElem?_inj h1 hok.2.1).1 (hi.trans hj.symm)
          omega
        · cases hi⟩
      have HWN := Lib.hid hok.1
      have HCR3 := Lib.hid (Chg.refl nob w3)
      clear hl hso hgo hC3 hs3 hc3 hok q0 q1 HOK
      have q0 := HQ0.out
      have q1 := HQ1.out
      go_upto_region 11 with fail
      go_wp2_with fail
      refine (r_has HA3.out HL2.out x0).mono ?_
      rintro e w4 ⟨rfl, rfl⟩
      obtain ⟨dv, hdv⟩ : ∃ dv, decide (x0 ∈ all) = dv := ⟨_, rfl⟩
      have HDV := Lib.hid hdv
      rw [hdv]
      clear hdv
      go_upto_if 43 with fail
      go_cut [12] from 44 to 45 (fun v wx => v = .int .i64 (if x0 ∈ all then (k : Int) - 1 else k) ∧ wx = w4)
      case first =>
        cases dv with
        | true =>
          have hw : IntKind.i64.wrap ((k : Int) - 1) = (k : Int) - 1 := IntWalk.i64_in _ (by omega)
          have hin : x0 ∈ all := of_decide_eq_true HDV.out
          have HIN := Lib.hid hin
          clear hin
          go_wp2
          go_meet
          case rel => exact ⟨by rw [if_pos HIN.out], rfl⟩
        | false =>
          have hin : x0 ∉ all := of_decide_eq_false HDV.out
          have HIN := Lib.hid hin
          clear hin
          go_wp2
          go_meet
          case rel => exact ⟨by rw [if_neg HIN.out], rfl⟩
      case rest =>
        obtain ⟨rfl, hwc⟩ := hcut
        subst hwc
        obtain ⟨a, ha⟩ : ∃ a, (if x0 ∈ all then (k : Int) - 1 else k) = a := ⟨_, rfl⟩
        have HWA : Hid ((so : Int) = if (if x1 < a then x1 else a) < 0 then 0 else (if x1 < a then x1 else a)) := by
          have := HWN.out
          unfold wantN at this
          rw [HL2.out, ha] at this
          exact this
        rw [ha]
        clear ha HWN
        go_upto_if 49 with fail
        go_cut [12] from 50 to 51 (fun v wx => v = .int .i64 (if x1 < a then x1 else a) ∧ wx = wc)
        case first =>
          by_cases hxa : x1 < a
          · go_wp2
            go_meet
            case rel => exact ⟨by rw [if_pos hxa], rfl⟩
          · go_wp2
            go_meet
            case rel => exact ⟨by rw [if_neg (by omega)], rfl⟩
        case rest =>
          obtain ⟨rfl, hwc⟩ := hcut
          subst hwc
          obtain ⟨b, hb⟩ : ∃ b, (if x1 < a then x1 else a) = b := ⟨_, rfl⟩
          rw [hb] at HWA ⊢
          clear hb
          go_upto_if 53 with fail
          go_cut [12] from 54 to 54 (fun v wx => v = .int .i64 so ∧ wx = wc)
          case first =>
            by_cases hb0 : b < 0
            · have e : Hid ((so : Int) = 0) := by show _ = _; rw [HWA.out, if_pos hb0]
              go_wp2
              go_meet
              case rel => exact ⟨by rw [e.out], rfl⟩
            · have e : Hid ((so : Int) = b) := by show _ = _; rw [HWA.out, if_neg hb0]
              go_wp2
              go_meet
              case rel => exact ⟨by rw [e.out], rfl⟩
          case rest =>
            obtain ⟨rfl, rfl⟩ := hcut
            clear HWA q0 q1
            go_wp2
            go_loopw [13] (fun v wr => ∃ j : Nat, j ≤ so ∧ v = .int .i64 j ∧ Hid (Chg nob wc wr)) (fun v _ => so - (intOf v).toNat)
            case atStart => exact ⟨0, Nat.zero_le _, rfl, HCR3⟩
            case round =>
              obtain ⟨j, hj2, rfl, HCJ⟩ := hrel
              have hsm := HL3.out.small
              rw [HSO.out] at hsm
              clear HCR3
              by_cases hlt2 : j < so
              · have g1 : (j : Int) < (so : Int) := by omega
                have g3 : (0 : Int) ≤ (j : Int) := by omega
                have g4 : j ≤ cl := by omega
                obtain ⟨y, hy⟩ : ∃ y, l[j]? = some y := ⟨_, List.getElem?_eq_getElem (by rw [HSO.out]; exact hlt2)⟩
                obtain ⟨h1, h2, h3⟩ := HALL.out j y hy
                obtain ⟨ad, rfl, _, hcell⟩ := at_scalar HL3.out hy
                have HCELL := Lib.hid hcell
                have t0 : (y == x0) = false := by simpa using h1
                have HHA : Hid (∀ wx, Chg nob wc wx → Calls Try.prog 14 #[.slice V k cv, .int .i64 y] wx fun e w' => e = .returned (.bool true) ∧ Chg nob wc w') := fun wx hc => (r_has (Kd.C_new HA3.out hc) HL2.out y).mono fun e w' ⟨he, hw⟩ => ⟨by rw [he, decide_eq_true h2], hw ▸ hc⟩
                have HHT : Hid (∀ wx, Chg nob wc wx → Calls Try.prog 14 #[.slice (some ad) j cl, .int .i64 y] wx fun e w' => e = .returned (.bool false) ∧ Chg nob wc w') := fun wx hc => (r_has (Kd.C_take (Kd.C_new HL3.out hc) j (by rw [HSO.out]; omega)) (by rw [List.length_take, HSO.out]; omega) y).mono fun e w' ⟨he, hw⟩ => ⟨by rw [he, decide_eq_false h3], hw ▸ hc⟩
                have hcj := HCJ.out.drew
                clear hy h1 h2 h3 hcell
                go_wp2
                go_region_held3 (fun w' => w'.cell? (ad.add j) = some (.int .i64 y) ∧ w'.cell? ⟨w.heap.size, 0, none⟩ = some (.int .i64 x0)) (exact ⟨Chg.cell (by assumption) HCELL.out (not_nob _), Chg.cell (by assumption) HQ0.out (not_nob _)⟩)
                  (first | (go_at_call 14; with_reducible refine (HHA.out _ (by assumption)).mono ?_; rintro e w' ⟨rfl, hq⟩) | (go_at_call 14; refine (HHT.out _ (by assumption)).mono ?_; rintro e w' ⟨rfl, hq⟩))
                have HCJ2 := Lib.hid hq
                clear hq hcj
                go_wp2
                exact ⟨⟨j + 1, by omega, by go_num, HCJ2⟩, by simp [intOf]; omega⟩
              · obtain rfl : j = so := by omega
                have g1 : ¬ (j : Int) < (j : Int) := by omega
                have hcj := HCJ.out
                go_wp2_with fail
                refine (probe_works _).mono ?_
                rintro e w9 ⟨rfl, hq⟩
                go_wp2
                go_ret
                exact ⟨rfl, (HCH.out.thenNew HCJ.out).thenNew hq⟩
end Go.Proofs.Ytoiikjojknnobaa
