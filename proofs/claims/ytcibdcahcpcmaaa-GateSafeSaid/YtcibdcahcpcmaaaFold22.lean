import Derived.Test.YtcibdcahcpcmaaaFold21
/- The reference's Sum: what a call does. -/
namespace Go.Proofs.Ytcibdcahcpcmaaa
open Go.RowKit
set_option maxRecDepth 100000
set_option linter.unusedVariables false
set_option linter.unusedSimpArgs false
/-- Four numbers, in the reference's block. -/
structure RowAt (w : World) (g : Nat) (v : V4) : Prop where
  c : w.heap[g]? = some (.cells (fourV v) 138 (0, 0))
  s : small v
section
variable {w w' : World} {g x : Nat} {v u : V4}
theorem RowAt.chg {S : Nat → Prop} (h : RowAt w g v) (hc : Chg S w w') (hg : ¬ S g) : RowAt w' g v := ⟨hc.heap h.c hg, h.s⟩
theorem RowAt.cells (h : RowAt w g v) : (w.cell? ⟨g, 0, none⟩ = some (.int .u64 v.1) ∧ w.cell? ⟨g, 1, none⟩ = some (.int .u64 v.2.1) ∧ w.cell? ⟨g, 2, none⟩ = some (.int .u64 v.2.2.1) ∧ w.cell? ⟨g, 3, none⟩ = some (.int .u64 v.2.2.2)) ∧ ∀ j, w.frozen? ⟨g, j, none⟩ = false := row4_cells h.c
theorem RowAt.set0 (h : RowAt w g v) (hx : x < 18446744073709551616) : RowAt (w.setCell ⟨g, 0, none⟩ (.int .u64 x)) g (x, v.2) :=
  ⟨by simp [World.setCell, Array.getElem?_modify, h.c, fourV], hx, h.s.2⟩
theorem RowAt.set2 (h : RowAt w g v) (hx : x < 18446744073709551616) : RowAt (w.setCell ⟨g, 2, none⟩ (.int .u64 x)) g (v.1, v.2.1, x, v.2.2.2) :=
  ⟨by simp [World.setCell, Array.getElem?_modify, h.c, fourV], h.s.1, h.s.2.1, hx, h.s.2.2.2⟩
theorem RowAt.set3 (h : RowAt w g v) (hx : x < 18446744073709551616) : RowAt (w.setCell ⟨g, 3, none⟩ (.int .u64 x)) g (v.1, v.2.1, v.2.2.1, x) :=
  ⟨by simp [World.setCell, Array.getElem?_modify, h.c, fourV], h.s.1, h.s.2.1, h.s.2.2.1, hx⟩
theorem RowAt.setAll (h : RowAt w g v) (hu : small u) : RowAt (set4 w g (.int .u64 u.1) (.int .u64 u.2.1) (.int .u64 u.2.2.1) (.int .u64 u.2.2.2)) g u := ⟨set4_row h.c _ _ _ _, hu⟩
end
/-- A word's bytes, read from the highest. -/
def hiW (l : List UInt8) (at_ k : Nat) : Nat := leW ((l.drop (at_ + k)).take (8 - k))
theorem hiW_next {l : List UInt8} {at_ k : Nat} {x : UInt8} (hx : l[at_ + k]? = some x) (hk : k < 8) : hiW l at_ (k + 1) * 256 + x.toNat = hiW l at_ k := by
  unfold hiW
  obtain ⟨hl, rfl⟩ := List.getElem?_eq_some_iff.1 hx
  rw [List.drop_eq_getElem_cons hl, show 8 - k = (8 - (k + 1)) + 1 from by omega, List.take_succ_cons, leW, show at_ + k + 1 = at_ + (k + 1) from by omega]
  omega
theorem hiW_lt (l : List UInt8) (at_ k : Nat) : hiW l at_ k < 18446744073709551616 := leW_lt8 (by rw [List.length_take]; omega)
theorem hiW_zero (l : List UInt8) (j : Nat) : hiW l (8 * j) 0 = wordAt l j := rfl
theorem hiW_top (l : List UInt8) (at_ : Nat) : hiW l at_ 8 = 0 := by simp [hiW, leW]
theorem hi_val {h x n : Nat} (hn : h * 256 + x = n) (hlt : n < 18446744073709551616) : IntKind.u64.wrap (IntKind.u64.wrap ((h : Int) * 256) + IntKind.u64.wrap (x : Int)) = (n : Int) := by
  have e1 : IntKind.u64.wrap ((h : Int) * 256) = ((h * 256 : Nat) : Int) := by rw [show (h : Int) * 256 = ((h * 256 : Nat) : Int) from by omega, wrap_u64, Nat.mod_eq_of_lt (by omega)]
  have e2 : IntKind.u64.wrap (x : Int) = (x : Int) := by rw [wrap_u64, Nat.mod_eq_of_lt (by omega)]
  rw [e1, e2, show ((h * 256 : Nat) : Int) + (x : Int) = (n : Int) from by omega, wrap_u64, Nat.mod_eq_of_lt hlt]
theorem RowAt.chgAt {w w' : World} {g : Nat} {v u : V4} {A : Option Addr} {l : List UInt8} (hC : Kd.byte.C w (fun b => g + 1 ≤ b) A l) (hc : Chg (fun b => b = g) w w') : Kd.byte.C w' (fun b => g + 1 ≤ b) A l :=
  Kd.C_chg hC hc (fun b hb e => by omega)
set_option maxHeartbeats 1000000 in
theorem r_sum {w : World} {k0 k1 : Nat} (h0 : k0 < 18446744073709551616) (h1 : k1 < 18446744073709551616) {ok : Nat → Prop} {A : Option Addr} {m c : Nat} {bs : List UInt8} (hb : Kd.byte.C w ok A bs) (hok : ∀ b, ok b → b < w.heap.size) (hm : bs.length = m) (hl : m ≤ 140737488351232) :
    Calls Try.prog 49 #[.int .u64 k0, .int .u64 k1, .slice A m c] w fun e w' => e = .returned (.int .u64 (sumN k0 k1 bs)) ∧ Chg nob w w' := by
  have HB := Lib.hid hb
  have HM := Lib.hid hm
  have HOK := Lib.hid hok
  have HX : Hid (bits .xor .u64 (k0 : Int) 8317987319222330741 = ((k0 ^^^ 8317987319222330741 : Nat) : Int) ∧ bits .xor .u64 (k1 : Int) 7237128888997146477 = ((k1 ^^^ 7237128888997146477 : Nat) : Int) ∧ bits .xor .u64 (k0 : Int) 7816392313619706465 = ((k0 ^^^ 7816392313619706465 : Nat) : Int) ∧ bits .xor .u64 (k1 : Int) 8387220255154660723 = ((k1 ^^^ 8387220255154660723 : Nat) : Int)) :=
    ⟨xor_u64 h0 (by decide), xor_u64 h1 (by decide), xor_u64 h0 (by decide), xor_u64 h1 (by decide)⟩
  clear hb hm hok
  go_enter Try.func49, Try.ntmps49
  obtain ⟨e1, e2, e3, e4⟩ := HX.out
  go_wp2_with (at_builtin; refine wp_appB rfl _ _ rfl (w.heap.size + 1) (fun _ => False) ok (.slice none 0 0) [] bs A m c rfl rfl HM.out (Kd.R_nil _ _ _ _ _) (Kd.C_new HB.out ((Chg.refl _ _).alloc _)) (by simp) m (by simp) (by omega) ?_)
  intro A1 c1 w1 hR1 hC1 _
  have hn1 : Chg nob w w1 := ((Chg.refl _ _).alloc _).trans hC1 (fun i hi => by cases hi)
  have hrow : RowAt w1 w.heap.size (startV k0 k1) := by
    refine ⟨hC1.heap ?_ (fun e => by cases e), startV_small h0 h1⟩
    exact heap_alloc_new w _
  have HR1 := Lib.hid (byte_ge hR1)
  have HROW := Lib.hid hrow
  have HN1 := Lib.hid hn1
  have hs1 := hC1.size
  simp only [World.size_alloc] at hs1
  clear hR1 hC1 hrow hn1 e1 e2 e3 e4 HX HB
  generalize hg : w.heap.size = g at HR1 HROW hs1 ⊢
  go_wp2
  go_loopw [8] (fun v wr => ∃ (k : Nat) (A' : Option Addr) (c' q : Nat), v = .slice A' q c' ∧ q = m + k ∧ k ≤ 7 - m % 8 ∧ Hid (Kd.byte.R 5 wr (g + 1) (fun b => g + 1 ≤ b) (.slice A' q c') (bs ++ List.replicate k 0)) ∧ Hid (RowAt wr g (startV k0 k1)) ∧ Hid (Chg nob w wr) ∧ g + 1 ≤ wr.heap.size) (fun v _ => 7 - (sliceLen v - m))
  case atStart => exact ⟨0, A1, c1, m, rfl, rfl, Nat.zero_le _, by show Kd.byte.R _ _ _ _ _ _; simpa using HR1.out, HROW.out, HN1.out, hs1⟩
  case round =>
    obtain ⟨k, A', c', q, rfl, hq, hk, HR, HRW, HC, hsz⟩ := hrel
    have hql : q ≤ 140737488351239 := by omega
    have HQ0 := Lib.hid hq
    by_cases hlt : q % 8 = 7
    · have b1 : ((q : Int) % 8 != 7) = false := by simp; omega
      have hk7 : k = 7 - m % 8 := by omega
      have HFL : Hid ((bs ++ List.replicate k 0).length + 1 = q + 1) := by show _ = _; rw [List.length_append, HM.out, List.length_replicate]; omega
      have HFE : Hid (bs ++ List.replicate k 0 ++ [UInt8.ofNat (m % 256)] = fullB bs) := by show _ = _; rw [fullB, HM.out, hk7]
      have HQ8 : Hid (q + 1 = 8 * (m / 8 + 1)) := by show _ = _; omega
      clear hq hlt hk7 hk
      go_wp2_with (at_builtin; refine wp_app1B rfl _ _ rfl (g + 1) _ (.slice A' q c') (bs ++ List.replicate k 0) (UInt8.ofNat (m % 256)) _ (byte_mod m) rfl rfl HR.out hsz (q + 1) HFL.out (by omega) ?_)
      intro A5 c5 w5 hR5 hC5 _
      have HR5 : Hid (Kd.byte.R 5 w5 (g + 1) (fun b => g + 1 ≤ b) (.slice A5 (q + 1) c5) (fullB bs)) := by
        show Kd.byte.R _ _ _ _ _ _
        rw [← HFE.out]
        have := byte_ge hR5
        simpa only [List.append_assoc] using this
      have HRW5 : Hid (RowAt w5 g (startV k0 k1)) := HRW.out.chg hC5 (fun e => by have := (Kd.R_own HR.out g e.symm).1; omega)
      have HC5 : Hid (Chg nob w w5) := HC.out.trans hC5 (fun i hi => .inr (by have := (Kd.R_own HR.out i hi.symm).1; omega))
      have HB5 := Lib.hid (Kd.R_read HR5.out).1
      obtain ⟨N, hN⟩ : ∃ N, m / 8 + 1 = N := ⟨_, rfl⟩
      obtain ⟨L, hL⟩ : ∃ L, q + 1 = L := ⟨_, rfl⟩
      have hL8 : L = 8 * N := by rw [← hL, HQ8.out, hN]
      have hNl : N ≤ 17592186044416 := by omega
      have HLN := Lib.hid hL8
      have HFB : Hid ((fullB bs).length = L) := by show _ = _; rw [fullB_len, HM.out, hN, hL8]
      have HAB : Hid (absorb (fullB bs) (startV k0 k1) N = takeV (absorb bs (startV k0 k1) (m / 8)) (lastW bs)) := by show _ = _; rw [← hN, ← HM.out]; exact absorb_full bs _
      clear hR5 hC5 HR HRW HC HR1 HROW HN1 HR5 HFL HFE HQ8 b1 HQ0
      rw [hL]
      clear hL hql hL8 hN
      go_wp2
      go_loopw [9] (fun i wr => ∃ j : Nat, j ≤ N ∧ i = .int .i64 ((8 * j : Nat) : Int) ∧ Hid (RowAt wr g (absorb (fullB bs) (startV k0 k1) j)) ∧ Hid (Chg nob w wr) ∧ Hid (Kd.byte.C wr (fun b => g + 1 ≤ b) A5 (fullB bs))) (fun i _ => 8 * N - (intOf i).toNat)
      case atStart => exact ⟨0, Nat.zero_le _, rfl, HRW5, HC5, HB5⟩
      case round =>
        obtain ⟨j, hj, rfl, HRW, HC, HB⟩ := hrel
        by_cases hlt : j < N
        · have hlt8 : 8 * j < L := by rw [HLN.out]; omega
          have b1 : ((8 * j : Nat) : Int) < (L : Int) := by omega
          have hjL : 8 * j + 8 ≤ L := by rw [HLN.out]; omega
          go_wp2
          go_loopw [10, 11] (fun v i wx => ∃ t : Nat, t ≤ 8 ∧ v = .int .u64 (hiW (fullB bs) (8 * j) t) ∧ i = .int .i64 ((t : Int) - 1) ∧ wx = wr) (fun _ i _ => (intOf i + 1).toNat)
          case atStart => exact ⟨8, Nat.le_refl _, by rw [hiW_top]; rfl, rfl, rfl⟩
          case round =>
            obtain ⟨t, ht, rfl, rfl, rfl⟩ := hrel
            cases t with
            | succ t =>
              rw [show (((t + 1 : Nat) : Int) - 1) = (t : Int) from by omega]
              obtain ⟨x, hx⟩ : ∃ x, (fullB bs)[8 * j + t]? = some x := ⟨_, List.getElem?_eq_getElem (by rw [HFB.out]; omega)⟩
              obtain ⟨ad, hA, _, ha⟩ := at_scalar HB.out hx
              have ha' : wr.cell? (ad.add (8 * j + t)) = some (.int .u8 x.toNat) := ha
              have HN := Lib.hid (hiW_next hx (by omega))
              have HL1 := Lib.hid (hiW_lt (fullB bs) (8 * j) t)
              obtain ⟨q5, hq5⟩ : ∃ q5, 8 * j + t = q5 := ⟨_, rfl⟩
              rw [hq5] at ha'
              have e5 : (8 * (j : Int) + (t : Int)) = (q5 : Int) := by omega
              have b2 : (0 : Int) ≤ (q5 : Int) := by omega
              have b3 : (q5 : Int) < (L : Int) := by omega
              have b4 : (0 : Int) ≤ (t : Int) := by omega
              clear ha hx hq5
              subst hA
              go_wp2
              exact ⟨⟨t, by omega, by rw [hi_val HN.out HL1.out], rfl, trivial⟩, by simp [intOf]⟩
            | zero =>
              have b4 : ¬ (0 : Int) ≤ ((0 : Nat) : Int) - 1 := by omega
              rw [show hiW (fullB bs) (8 * j) 0 = wordAt (fullB bs) j from rfl]
              obtain ⟨v, hv⟩ : ∃ v, absorb (fullB bs) (startV k0 k1) j = v := ⟨_, rfl⟩
              obtain ⟨M, hM⟩ : ∃ M, wordAt (fullB bs) j = M := ⟨_, rfl⟩
              have hMl : M < 18446744073709551616 := by rw [← hM]; exact wordAt_lt _ _
              have HNX : Hid (absorb (fullB bs) (startV k0 k1) (j + 1) = takeV v M) := by show _ = _; rw [absorb, hv, hM]
              rw [hv] at HRW
              rw [hM]
              have hs := HRW.out.s
              have HE : Hid (bits .xor .u64 (v.2.2.2 : Int) (M : Int) = ((v.2.2.2 ^^^ M : Nat) : Int)) := xor_u64 hs.2.2.2 hMl
              have h3 := HRW.out.set3 (xor_lt64 hs.2.2.2 hMl)
              have hc3 : Chg (fun b => b = g) wr (wr.setCell ⟨g, 3, none⟩ (.int .u64 ((v.2.2.2 ^^^ M : Nat) : Int))) := Chg.set1 (Chg.refl _ _) _ _
              obtain ⟨⟨d0, d1, d2, d3⟩, df⟩ := HRW.out.cells
              have f3 := df 3
              have HML := Lib.hid hMl
              clear df hv hM hs hMl HRW
              go_wp2_with fail
              rw [HE.out]
              generalize wr.setCell ⟨g, 3, none⟩ (.int .u64 ((v.2.2.2 ^^^ M : Nat) : Int)) = w6 at h3 hc3 ⊢
              clear d0 d1 d2 d3 f3
              refine (r_round (v := (v.1, v.2.1, v.2.2.1, v.2.2.2 ^^^ M)) h3.s).mono ?_
              rintro e w7 ⟨rfl, hc7⟩
              have hs7 := roundV_small h3.s
              have h7 := h3.chg hc7 (not_nob _)
              have HC7 := Lib.hid (hc3.thenNew hc7)
              obtain ⟨r1, hr1⟩ : ∃ r, roundV (v.1, v.2.1, v.2.2.1, v.2.2.2 ^^^ M) = r := ⟨_, rfl⟩
              rw [hr1] at hs7 ⊢
              have HR1 := Lib.hid hr1
              clear h3 hc3 hc7 hr1 HE
              unfold fourV
              go_wp2_with fail
              refine (r_round (v := r1) hs7).mono ?_
              rintro e w8 ⟨rfl, hc8⟩
              have hs8 := roundV_small hs7
              have h8 := h7.chg hc8 (not_nob _)
              have HC8 := Lib.hid (HC7.out.thenNew hc8)
              obtain ⟨r2, hr2⟩ : ∃ r, roundV r1 = r := ⟨_, rfl⟩
              rw [hr2] at hs8 ⊢
              have HT : Hid (takeV v M = (r2.1 ^^^ M, r2.2)) := by show _ = _; rw [← hr2, ← HR1.out]; rfl
              have HE2 : Hid (bits .xor .u64 (r2.1 : Int) (M : Int) = ((r2.1 ^^^ M : Nat) : Int)) := xor_u64 hs8.1 HML.out
              have h9 := (RowAt.setAll h8 hs8).set0 (xor_lt64 hs8.1 HML.out)
              obtain ⟨⟨d0, d1, d2, d3⟩, df⟩ := h8.cells
              have f0 := df 0
              have f1 := df 1
              have f2 := df 2
              have f3 := df 3
              have H9 := Lib.hid h9
              clear df hr2 h7 hc8 hs7 hs8 h8 h9 HC7
              unfold fourV
              go_wp2
              rw [HE2.out]
              refine ⟨⟨j + 1, by omega, by go_num, ?_, ?_, ?_⟩, by simp [intOf]; omega⟩
              · show RowAt _ _ _
                rw [HNX.out, HT.out]
                exact H9.out
              · exact HC.out.trans ((set4_chg HC8.out (.inl rfl) _ _ _ _).set1 0 _) (fun i hi => .inr (by omega))
              · exact Kd.C_chg HB.out ((set4_chg HC8.out (.inl rfl) _ _ _ _).set1 0 _) (fun b hb e => by omega)
        · have hlt8 : L ≤ 8 * j := by rw [HLN.out]; omega
          have b1 : ¬ ((8 * j : Nat) : Int) < (L : Int) := by omega
          have hjN : j = N := by omega
          obtain ⟨v, hv⟩ : ∃ v, takeV (absorb bs (startV k0 k1) (m / 8)) (lastW bs) = v := ⟨_, rfl⟩
          rw [hjN, HAB.out, hv] at HRW
          have hs := HRW.out.s
          have HS : Hid (sumN k0 k1 bs = endV v) := by show _ = _; rw [sumN, HM.out, hv]
          have HE : Hid (bits .xor .u64 (v.2.2.1 : Int) 255 = ((v.2.2.1 ^^^ 255 : Nat) : Int)) := xor_u64 hs.2.2.1 (by decide)
          have h3 := HRW.out.set2 (xor_lt64 hs.2.2.1 (by decide : (255 : Nat) < 18446744073709551616))
          have hc3 : Chg (fun b => b = g) wr (wr.setCell ⟨g, 2, none⟩ (.int .u64 ((v.2.2.1 ^^^ 255 : Nat) : Int))) := Chg.set1 (Chg.refl _ _) _ _
          obtain ⟨⟨d0, d1, d2, d3⟩, df⟩ := HRW.out.cells
          have f2 := df 2
          clear df hv hs HRW
          go_wp2_with fail
          rw [HE.out]
          generalize wr.setCell ⟨g, 2, none⟩ (.int .u64 ((v.2.2.1 ^^^ 255 : Nat) : Int)) = w6 at h3 hc3 ⊢
          clear d0 d1 d2 d3 f2
          refine (r_round (v := (v.1, v.2.1, v.2.2.1 ^^^ 255, v.2.2.2)) h3.s).mono ?_
          rintro e w7 ⟨rfl, hc7⟩
          have hs7 := roundV_small h3.s
          have h7 := h3.chg hc7 (not_nob _)
          have HC7 := Lib.hid (hc3.thenNew hc7)
          obtain ⟨r1, hr1⟩ : ∃ r, roundV (v.1, v.2.1, v.2.2.1 ^^^ 255, v.2.2.2) = r := ⟨_, rfl⟩
          rw [hr1] at hs7 ⊢
          have HR1 := Lib.hid hr1
          clear h3 hc3 hc7 hr1 HE
          unfold fourV
          go_wp2_with fail
          refine (r_round (v := r1) hs7).mono ?_
          rintro e w8 ⟨rfl, hc8⟩
          have hs8 := roundV_small hs7
          have h8 := h7.chg hc8 (not_nob _)
          have HC8 := Lib.hid (HC7.out.thenNew hc8)
          obtain ⟨r2, hr2⟩ : ∃ r, roundV r1 = r := ⟨_, rfl⟩
          rw [hr2] at hs8 ⊢
          have HR2 := Lib.hid hr2
          clear hr2 h7 hc8 hs7 HC7
          unfold fourV
          go_wp2_with fail
          refine (r_round (v := r2) hs8).mono ?_
          rintro e w9 ⟨rfl, hc9⟩
          have hs9 := roundV_small hs8
          have h9 := h8.chg hc9 (not_nob _)
          have HC9 := Lib.hid (HC8.out.thenNew hc9)
          obtain ⟨r3, hr3⟩ : ∃ r, roundV r2 = r := ⟨_, rfl⟩
          rw [hr3] at hs9 ⊢
          have HR3 := Lib.hid hr3
          clear hr3 h8 hc9 hs8 HC8
          unfold fourV
          go_wp2_with fail
          refine (r_round (v := r3) hs9).mono ?_
          rintro e w10 ⟨rfl, hc10⟩
          have hs10 := roundV_small hs9
          have h10 := h9.chg hc10 (not_nob _)
          have HC10 := Lib.hid (HC9.out.thenNew hc10)
          obtain ⟨r4, hr4⟩ : ∃ r, roundV r3 = r := ⟨_, rfl⟩
          rw [hr4] at hs10 ⊢
          have HR4 := Lib.hid hr4
          clear hr4 h9 hc10 hs9 HC9
          unfold fourV
          have HT : Hid (sumN k0 k1 bs = r4.1 ^^^ r4.2.1 ^^^ r4.2.2.1 ^^^ r4.2.2.2) := by show _ = _; rw [HS.out, ← HR4.out, ← HR3.out, ← HR2.out, ← HR1.out]; rfl
          have HX : Hid (bits .xor .u64 (bits .xor .u64 (bits .xor .u64 (r4.1 : Int) (r4.2.1 : Int)) (r4.2.2.1 : Int)) (r4.2.2.2 : Int) = ((r4.1 ^^^ r4.2.1 ^^^ r4.2.2.1 ^^^ r4.2.2.2 : Nat) : Int)) := by
            obtain ⟨s1, s2, s3, s4⟩ := hs10
            show _ = _
            rw [xor_u64 s1 s2, xor_u64 (xor_lt64 s1 s2) s3, xor_u64 (xor_lt64 (xor_lt64 s1 s2) s3) s4]
          have HN : Hid (Chg nob w (set4 w10 g (.int .u64 r4.1) (.int .u64 r4.2.1) (.int .u64 r4.2.2.1) (.int .u64 r4.2.2.2))) := HC.out.trans (set4_chg HC10.out (.inl rfl) _ _ _ _) (fun i hi => .inr (by omega))
          obtain ⟨⟨d0, d1, d2, d3⟩, df⟩ := h10.cells
          have f0 := df 0
          have f1 := df 1
          have f2 := df 2
          have f3 := df 3
          clear df h10 hs10 HC10
          go_wp2
          go_ret
          rw [HT.out]
          exact ⟨by rw [← HX.out]; rfl, HN.out⟩
    · have b1 : ((q : Int) % 8 != 7) = true := by simp; omega
      have HQ : Hid ((bs ++ List.replicate k 0).length + 1 = q + 1) := by show _ = _; rw [List.length_append, HM.out, List.length_replicate]; omega
      have hk7 : k + 1 ≤ 7 - m % 8 := by omega
      clear hq hlt hk
      go_wp2_with (at_builtin; refine wp_app1B rfl _ _ rfl (g + 1) _ (.slice A' q c') (bs ++ List.replicate k 0) 0 _ rfl rfl rfl HR.out hsz (q + 1) HQ.out (by omega) ?_)
      intro A5 c5 w5 hR5 hC5 _
      have HR5 : Hid (Kd.byte.R 5 w5 (g + 1) (fun b => g + 1 ≤ b) (.slice A5 (q + 1) c5) (bs ++ List.replicate (k + 1) 0)) := by
        show Kd.byte.R _ _ _ _ _ _
        rw [show bs ++ List.replicate (k + 1) 0 = bs ++ List.replicate k 0 ++ [0] from by rw [List.append_assoc, List.replicate_succ']]
        have := byte_ge hR5
        simpa only [List.append_assoc] using this
      have HRW5 : Hid (RowAt w5 g (startV k0 k1)) := HRW.out.chg hC5 (fun e => by have := (Kd.R_own HR.out g e.symm).1; omega)
      have HC5 : Hid (Chg nob w w5) := HC.out.trans hC5 (fun i hi => .inr (by have := (Kd.R_own HR.out i hi.symm).1; omega))
      have hs5 := hC5.size
      clear hR5 hC5 HR HRW HC
      go_wp2
      have hq := HQ0.out
      exact ⟨⟨k + 1, A5, c5, q + 1, rfl, by omega, by omega, HR5, HRW5, HC5, by omega⟩, by simp [sliceLen]; omega⟩
end Go.Proofs.Ytcibdcahcpcmaaa
