/- Failover: the calls of yield that spoken's iterator makes. -/
import Derived.Test.YthjlgcooihpakaaFoServes
import Derived.Test.YthjlgcooihpakaaRange
import Derived.Shelf.Abstract
import Derived.Shelf.RegionOpen
import Derived.OwnWalkIn
import Derived.TacticsInMore
import Derived.LoopNIn
import Derived.LoopIn
import Derived.Outline
namespace Go.Proofs.Ythjlgcooihpakaa
open Go.RowKit
set_option linter.unusedVariables false
set_option linter.unusedSimpArgs false
attribute [local go_sem] Oper.semAt_some
theorem spkL_snoc {tag : ByteArray} {t : ByteArray} {a : Ans} : ∀ (r : List (ByteArray × Ans)) (k : Nat), spkL tag (r ++ [(t, a)]) k = spkL tag r k ++ (if a.1 = 1 then [(k + r.length, goodL tag t a.2.2.2.2.1)] else [])
  | [], k => by simp [spkL]
  | (t', a') :: r, k => by
    rw [List.cons_append, spkL, spkL]
    have ih := spkL_snoc (tag := tag) (t := t) (a := a) r (k + 1)
    rw [ih, List.length_cons, show k + 1 + r.length = k + (r.length + 1) from by omega]
    split <;> simp
theorem spkL_append {tag : ByteArray} : ∀ (r s : List (ByteArray × Ans)) (k : Nat), spkL tag (r ++ s) k = spkL tag r k ++ spkL tag s (k + r.length)
  | [], s, k => by simp [spkL]
  | (t', a') :: r, s, k => by
    rw [List.cons_append, spkL, spkL]
    rw [spkL_append r s (k + 1), List.length_cons, show k + 1 + r.length = k + (r.length + 1) from by omega]
    split <;> simp
/-- What the first k targets make. -/
def spkN (ts : List ByteArray) (tag : ByteArray) (ls : List Ans) (k : Nat) : Nat := (spkL tag ((ts.zip ls).take k) 0).length
theorem zip_at {ts : List ByteArray} {ls : List Ans} {k : Nat} {t : ByteArray} {a : Ans} (h1 : ts[k]? = some t) (h2 : ls[k]? = some a) : (ts.zip ls)[k]? = some (t, a) := by
  rw [List.getElem?_zip_eq_some]
  exact ⟨h1, h2⟩
theorem spkN_skip {ts : List ByteArray} {tag : ByteArray} {ls : List Ans} {k : Nat} (h : ls.length ≤ k) : spkN ts tag ls (k + 1) = spkN ts tag ls k := by
  unfold spkN
  rw [List.take_of_length_le (by rw [List.length_zip]; omega), List.take_of_length_le (by rw [List.length_zip]; omega)]
theorem spkN_at {ts : List ByteArray} {tag : ByteArray} {ls : List Ans} {k : Nat} {t : ByteArray} {a : Ans} (h1 : ts[k]? = some t) (h2 : ls[k]? = some a) :
    spkL tag ((ts.zip ls).take (k + 1)) 0 = spkL tag ((ts.zip ls).take k) 0 ++ (if a.1 = 1 then [(k, goodL tag t a.2.2.2.2.1)] else []) := by
  have h := zip_at h1 h2
  have hk : k < (ts.zip ls).length := (List.getElem?_eq_some_iff.1 h).1
  rw [List.take_add_one, h]
  have := spkL_snoc (tag := tag) (t := t) (a := a) ((ts.zip ls).take k) 0
  rw [List.length_take, Nat.min_eq_left (Nat.le_of_lt hk), Nat.zero_add] at this
  exact this
theorem spkN_not {ts : List ByteArray} {tag : ByteArray} {ls : List Ans} {k : Nat} {t : ByteArray} {a : Ans} (h1 : ts[k]? = some t) (h2 : ls[k]? = some a) (h3 : a.1 ≠ 1) : spkN ts tag ls (k + 1) = spkN ts tag ls k := by
  unfold spkN
  rw [spkN_at h1 h2, if_neg h3, List.append_nil]
theorem spkN_is {ts : List ByteArray} {tag : ByteArray} {ls : List Ans} {k : Nat} {t : ByteArray} {a : Ans} (h1 : ts[k]? = some t) (h2 : ls[k]? = some a) (h3 : a.1 = 1) : spkN ts tag ls (k + 1) = spkN ts tag ls k + 1 ∧ (spkL tag (ts.zip ls) 0)[spkN ts tag ls k]? = some (k, goodL tag t a.2.2.2.2.1) := by
  have h4 := spkN_at (tag := tag) h1 h2
  rw [if_pos h3] at h4
  refine ⟨by unfold spkN; rw [h4]; simp, ?_⟩
  rw [← List.take_append_drop (k + 1) (ts.zip ls), spkL_append, h4]
  unfold spkN
  rw [List.append_assoc, List.getElem?_append_right (Nat.le_refl _), Nat.sub_self]
  rfl
/-- What the iterator reads. -/
structure SpkK (ub lx : Nat) (okT okL : Nat → Prop) (T : Option Addr) (tn tc : Nat) (ts : List ByteArray) (tag : ByteArray) (B : Option Addr) (ln lc : Nat) (ls : List Ans) (W : World) : Prop where
  u0 : W.cell? ⟨ub, 0, none⟩ = some (.slice T tn tc)
  u1 : W.cell? ⟨ub, 1, none⟩ = some (.string tag)
  l0 : W.cell? ⟨lx, 0, none⟩ = some (.slice B ln lc)
  t : strK.C W okT T ts
  l : ansK.C W okL B ls
theorem SpkK.new {ub lx : Nat} {okT okL : Nat → Prop} {T : Option Addr} {tn tc : Nat} {ts : List ByteArray} {tag : ByteArray} {B : Option Addr} {ln lc : Nat} {ls : List Ans} {W W' : World} (h : SpkK ub lx okT okL T tn tc ts tag B ln lc ls W) (hc : Chg nob W W') : SpkK ub lx okT okL T tn tc ts tag B ln lc ls W' :=
  ⟨hc.cell h.u0 (not_nob _), hc.cell h.u1 (not_nob _), hc.cell h.l0 (not_nob _), Kd.C_new h.t hc, Kd.C_new h.l hc⟩
/-- What the k-th call of yield is handed. -/
def spkM (okL : Nat → Prop) (ts : List ByteArray) (tag : ByteArray) (ls : List Ans) (B k : Nat) (args : Array Value) (W : World) : Prop :=
  ∃ (k' : Nat) (g : List Svc) (A : Option Addr) (n c : Nat), (spkL tag (ts.zip ls) 0)[k]? = some (k', g) ∧ args = #[.int .i64 k', .slice A n c] ∧ g.length = n ∧ n ≤ c ∧ svcK.C W (fun b => okL b ∨ B ≤ b) A g
set_option maxRecDepth 100000 in
set_option maxHeartbeats 4000000 in
theorem f_spkY {W : World} {l : Nat} {J Jx : Nat → World → Prop} {ub lx : Nat} {okT okL : Nat → Prop} {T : Option Addr} {tn tc : Nat} {ts : List ByteArray} {tag : ByteArray} {B : Option Addr} {ln lc : Nat} {ls : List Ans} (hn : ts.length = tn) (hln : ls.length = ln) (htc : tn ≤ tc) (hokL : ∀ b, okL b → b < W.heap.size)
    (hJ : ∀ k X Y, J k X → Chg nob X Y → J k Y) (hKI : ∀ k X, J k X → W.heap.size ≤ X.heap.size ∧ SpkK ub lx okT okL T tn tc ts tag B ln lc ls X)
    (hY : ∀ k args X0 X, k < (spkL tag (ts.zip ls) 0).length → J k X0 → Chg nob X0 X → spkM okL ts tag ls X0.heap.size k args X → YieldAt Fence.wide 0 Try.prog l args X fun e Y => (e = .returned (.bool true) ∧ J (k + 1) Y) ∨ (e = .returned (.bool false) ∧ Jx (k + 1) Y))
    (h0 : J 0 W) :
    Calls Try.prog 26 #[.func (.yield l) #[] #[], .pointer (some ⟨ub, 0, none⟩), .pointer (some ⟨lx, 0, none⟩)] W fun e B => (∃ v, e = .returned v) ∧ (J (spkL tag (ts.zip ls) 0).length B ∨ ∃ k, k < (spkL tag (ts.zip ls) 0).length ∧ Jx (k + 1) B) := by
  have HN := Lib.hid hn
  have HLN := Lib.hid hln
  have HOKL := Lib.hid hokL
  have HJ := Lib.hid hJ
  have HKI := Lib.hid hKI
  have HY := Lib.hid hY
  have HJ0 : Hid (J (spkN ts tag ls 0) W) := h0
  have q0 := (hKI 0 W h0).2.u0
  have hsm := (hKI 0 W h0).2.t.small
  rw [hn] at hsm
  clear hn hln hokL hJ hKI hY h0
  refine (callsIn_wide (n := 0)).1 ?_
  refine callsIn_of_wp Try.func26 rfl trivial ?_ rfl
  simp only [Try.ntmps26, List.size_toArray, List.length_cons, List.length_nil, Nat.reduceAdd, Nat.reduceSub, Array.replicate_succ, Array.replicate_zero, List.push_toArray, List.append_toArray, List.nil_append, List.cons_append]
  gi_wp2
  clear q0
  gi_loopw [13] (fun v wr => ∃ k : Nat, k ≤ tn ∧ v = .int .i64 k ∧ Hid (J (spkN ts tag ls k) wr)) (fun v _ => tn - (intOf v).toNat)
  case atStart => exact ⟨0, Nat.zero_le _, rfl, HJ0⟩
  case round =>
    obtain ⟨k, hk, rfl, HJK⟩ := hrel
    clear HJ0
    by_cases hlt : k < tn
    · obtain ⟨w0, hw0⟩ : ∃ w0, w0 = wr := ⟨_, rfl⟩
      subst hw0
      have b1 : (k : Int) < (tn : Int) := by omega
      have b3 : (0 : Int) ≤ (k : Int) := by omega
      have HK0 := Lib.hid (HKI.out _ _ HJK.out).2
      obtain ⟨y, hy⟩ : ∃ y, ts[k]? = some y := ⟨_, List.getElem?_eq_getElem (by rw [HN.out]; exact hlt)⟩
      obtain ⟨ad, rfl, _, hcell⟩ := at_scalar HK0.out.t hy
      have hc1 := (Chg.refl nob w0).alloc (.cells #[.string y] 9)
      have HK1 := Lib.hid (HK0.out.new hc1)
      have HC1 := Lib.hid hc1
      have HY0 := Lib.hid hy
      obtain ⟨_, r1, r2, _, _⟩ := HK1.out
      have hb := heap_alloc_new w0 (.cells #[.string y] 9)
      have HB5 : Hid ((w0.alloc (.cells #[.string y] 9)).cell? ⟨w0.heap.size, 0, none⟩ = some (.string y)) := by show _ = _; rw [cell_of_row _ _ _ _ _ _ hb]; rfl
      clear hy hc1 hb
      by_cases hkl : k < ln
      · have b4 : ¬ (ln : Int) ≤ (k : Int) := by omega
        have b5 : (k : Int) < (ln : Int) := by omega
        obtain ⟨w1, hw1⟩ : ∃ w1, w1 = w0.alloc (.cells #[.string y] 9) := ⟨_, rfl⟩
        obtain ⟨a, ha⟩ : ∃ a, ls[k]? = some a := ⟨_, List.getElem?_eq_getElem (by rw [HLN.out]; exact hkl)⟩
        obtain ⟨bb, bo, c, rfl, _, hk, hc⟩ := Kd.C_at' HK1.out.l ha
        obtain ⟨S, sd, K, kd, Nn, nd, I, id, E, ed, Tt, td, rfl, _, _, _, ⟨hI1, hI2, hI3⟩, _, _⟩ := ans_cells hk
        have z0 := hc 0 _ rfl
        have z8 := hc 8 _ rfl
        rw [show ansK.sz = 11 from rfl, Nat.add_zero] at z0
        rw [show ansK.sz = 11 from rfl] at z8
        have HAT := Lib.hid ha
        clear hk hc ha
        by_cases hkd : a.1 = 1
        · have t1 : (a.1 != 1) = false := by simp [hkd]
          have t2 : (a.1 == 1) = true := by simp [hkd]
          have HSP := Lib.hid (spkN_is (tag := tag) HY0.out HAT.out hkd)
          obtain ⟨im, him⟩ : ∃ im, a.2.2.2.2.1.length = im := ⟨_, rfl⟩
          rw [him] at z8 hI2 hI3
          have HIM := Lib.hid him
          have hism := hI1.small
          rw [him] at hism
          clear hkd him
          have HI := Lib.hid hI1
          have HW1 := Lib.hid hw1
          have hsW := (HKI.out _ _ HJK.out).1
          clear hI1 hw1
          gi_wp2
          clear r1 r2 z0 z8
          have hw1 := HW1.out
          rw [← hw1] at HB5 HK1 HC1 HI ⊢
          clear hw1
          have hs1 := HC1.out.size
          have HR0 : Hid (svcK.R 58 w1 w1.heap.size (fun b => okL b ∨ w1.heap.size ≤ b) (.slice none 0 0) (goodL tag y (a.2.2.2.2.1.take 0))) := Kd.R_nil _ _ _ _ _
          have HC0 := Lib.hid (Chg.refl nob w1)
          refine wpIn_wide.2 ?_
          go_loopw [7, 37] (fun v i wx => ∃ (j m : Nat) (V : Option Addr) (cv : Nat), j ≤ im ∧ m ≤ j ∧ v = .slice V m cv ∧ i = .int .i64 j ∧ Hid ((goodL tag y (a.2.2.2.2.1.take j)).length = m) ∧ Hid (svcK.R 58 wx w1.heap.size (fun b => okL b ∨ w1.heap.size ≤ b) (.slice V m cv) (goodL tag y (a.2.2.2.2.1.take j))) ∧ Hid (Chg nob w1 wx)) (fun _ i _ => im - (intOf i).toNat)
          case atStart => exact ⟨0, 0, none, 0, Nat.zero_le _, Nat.le_refl _, rfl, rfl, rfl, HR0, HC0⟩
          case round =>
            obtain ⟨j, m, V, cv, hj, hmj, rfl, rfl, HM, HR, HC⟩ := hrel
            clear HR0 HC0
            have HKX := Lib.hid (HK1.out.new HC.out)
            have HBX := Lib.hid (HC.out.cell HB5.out (not_nob _))
            have hsx := HC.out.size
            by_cases hjl : j < im
            · have b6 : (j : Int) < (im : Int) := by omega
              have b7 : (0 : Int) ≤ (j : Int) := by omega
              obtain ⟨x, hx⟩ : ∃ x, a.2.2.2.2.1[j]? = some x := ⟨_, List.getElem?_eq_getElem (by rw [HIM.out]; exact hjl)⟩
              obtain ⟨ib, io, L, d, rfl, hokb, hat, h7, hCt, hd, hts⟩ := inst_at (Kd.C_new HI.out HC.out) hx
              obtain ⟨xn, hxn⟩ : ∃ xn, x.1.2.2.2.1.length = xn := ⟨_, rfl⟩
              rw [hxn] at hat hd hts
              obtain ⟨p0, p1, p2, p3, p4, p5, p6⟩ := hat
              have HX := Lib.hid hx
              have HXN := Lib.hid hxn
              have hcb := (Chg.refl nob wr).alloc (.cells (instV x L d xn) 65)
              have HCB := Lib.hid hcb
              have HCT := Lib.hid (Kd.C_new hCt hcb)
              have HBB := Lib.hid (heap_alloc_new wr (.cells (instV x L d xn) 65))
              have HGS := Lib.hid (goodL_snoc (tag := tag) (target := y) hx)
              clear hx hxn hcb hCt
              go_wp2_with fail
              refine (f_serves HCT.out HXN.out hd (HCB.out.cell HBX.out (not_nob _)) (HKX.out.new HCB.out).u1).mono ?_
              rintro e w2 ⟨rfl, hc2⟩
              clear p0 p1 p2 p3 p4 p5 p6 h7
              obtain ⟨⟨p0, p1, p2, p3, p4, p5, p6⟩, p7⟩ := inst_block (hc2.heap HBB.out (not_nob _))
              have HC2 := Lib.hid (HC.out.thenNew (HCB.out.thenNew hc2))
              have HW2 := Lib.hid (HCB.out.thenNew hc2)
              have HCT2 := Lib.hid (Kd.C_new HCT.out hc2)
              have hs2 := HC2.out.size
              clear hc2
              obtain ⟨q, hq⟩ : ∃ q, servesB tag y x = q := ⟨_, rfl⟩
              rw [hq]
              have hgs := HGS.out
              rw [hq] at hgs
              clear hq
              cases q with
              | false =>
                rw [if_neg (by decide), List.append_nil] at hgs
                have HM2 : Hid ((goodL tag y (a.2.2.2.2.1.take (j + 1))).length = m) := by show _ = _; rw [hgs]; exact HM.out
                have HR2 : Hid (svcK.R 58 w2 w1.heap.size (fun b => okL b ∨ w1.heap.size ≤ b) (.slice V m cv) (goodL tag y (a.2.2.2.2.1.take (j + 1)))) := by show Kd.R _ _ _ _ _ _ _; rw [hgs]; exact Kd.R_new HR.out HW2.out
                clear hgs p0 p1 p2 p3 p4 p5 p6 p7
                go_wp2
                exact ⟨⟨j + 1, m, V, cv, by omega, by omega, rfl, by go_num, HM2, HR2, HC2⟩, by simp [intOf]; omega⟩
              | true =>
                rw [if_pos rfl] at hgs
                have HGS2 := Lib.hid hgs
                have hsv : svcK.K w2 (fun b => okL b) x.1 (svcV x.1 L d xn).toList := by
                  have := svc_mk (w := w2) (ok := okL) (x := x.1) (L := L) (d := d) HCT2.out (by rw [HXN.out]; exact hd) (by rw [HXN.out]; exact hts)
                  rw [HXN.out] at this
                  exact this
                have HSV := Lib.hid hsv
                have HRX := Lib.hid (Kd.R_new HR.out HW2.out)
                clear hgs hsv
                go_wp2_with (at_builtin; refine wp_append1 (d := svcK) rfl _ _ 27 rfl 58 (.agg #[.int .i64 0, .string ByteArray.empty, .string ByteArray.empty, .slice none 0 0, .int .i64 0, .int .u64 0, .int .u64 0]) 88 Try.underlying27 l_cloneV_info rfl w1.heap.size _ okL (.slice V m cv) (goodL tag y (a.2.2.2.2.1.take j)) x.1 (svcV x.1 L d xn) rfl rfl HRX.out HSV.out ?_ ?_ ?_ hs2 (m + 1) (by rw [HM.out]) ?_)
                · intro b hb e
                  have h1 := (Kd.R_own HRX.out b e.symm).1
                  have h2 := HOKL.out b hb
                  omega
                · rw [HM.out]; simp only [maxLen]; omega
                · rw [HM.out]; omega
                intro A5 c5 w5 hR5 hC5 _
                have HR5 : Hid (svcK.R 58 w5 w1.heap.size (fun b => okL b ∨ w1.heap.size ≤ b) (.slice A5 (m + 1) c5) (goodL tag y (a.2.2.2.2.1.take (j + 1)))) := by
                  show Kd.R _ _ _ _ _ _ _
                  rw [HGS2.out]
                  refine Kd.R_mono hR5 (fun b hb => ?_)
                  rcases hb with hb | hb | hb
                  · exact hb
                  · exact .inl hb
                  · exact .inr (by omega)
                have HC5 : Hid (Chg nob w1 w5) := HC2.out.trans hC5 (fun i hi => .inr (Kd.R_own HRX.out i hi.symm).1)
                have HM5 : Hid ((goodL tag y (a.2.2.2.2.1.take (j + 1))).length = m + 1) := by show _ = _; rw [HGS2.out, List.length_append, HM.out]; rfl
                clear hR5 hC5 p0 p1 p2 p3 p4 p5 p6 p7
                go_wp2
                exact ⟨⟨j + 1, m + 1, A5, c5, by omega, by omega, by go_num, by go_num, HM5, HR5, HC5⟩, by simp [intOf]; omega⟩
            · obtain rfl : j = im := by omega
              have b6 : ¬ (j : Int) < (j : Int) := by omega
              have HFULL : Hid (a.2.2.2.2.1.take j = a.2.2.2.2.1) := List.take_of_length_le (by rw [HIM.out]; exact Nat.le_refl _)
              have hR := HR.out
              have hM := HM.out
              rw [HFULL.out] at hR hM
              obtain ⟨k1, k2, k3⟩ := Kd.R_read hR
              have hmm : spkM okL ts tag ls w0.heap.size (spkN ts tag ls k) #[.int .i64 (k : Int), .slice V m cv] wr := ⟨k, goodL tag y a.2.2.2.2.1, V, m, cv, HSP.out.2, rfl, hM, k3, Kd.C_mono k1 (fun b hb => by rcases hb with hb | hb; exact .inl hb; exact .inr (by omega))⟩
              have HMM := Lib.hid hmm
              have hkl2 : spkN ts tag ls k < (spkL tag (ts.zip ls) 0).length := (List.getElem?_eq_some_iff.1 HSP.out.2).1
              obtain ⟨fn, tmps, assign, body, hy, hRo⟩ := HY.out _ _ _ _ hkl2 HJK.out (HC1.out.thenNew HC.out) HMM.out
              have HKL := Lib.hid hkl2
              clear hR hM k1 k2 k3 hmm hkl2
              go_wp2
              gi_wp2_with fail
              refine ⟨rfl, hRo.mono ?_⟩
              rintro e w3 (⟨rfl, hj3⟩ | ⟨rfl, hjx⟩)
              · have HJ4 : Hid (J (spkN ts tag ls (k + 1)) w3) := by show J _ _; rw [HSP.out.1]; exact hj3
                clear hj3 hy
                gi_wp2
                exact ⟨⟨k + 1, by omega, by go_num, HJ4⟩, by simp [intOf]; omega⟩
              · have HJX := Lib.hid hjx
                clear hjx hy
                gi_wp2
                refine bodyPost_ret (results_none rfl _ _ _) rfl ?_
                exact ⟨⟨_, rfl⟩, .inr ⟨_, HKL.out, HJX.out⟩⟩
        · have t1 : (a.1 != 1) = true := by simp [hkd]
          have t2 : (a.1 == 1) = false := by simp [hkd]
          have HJ2 : Hid (J (spkN ts tag ls (k + 1)) (w0.alloc (.cells #[.string y] 9))) := by
            show J _ _
            rw [spkN_not HY0.out HAT.out hkd]
            exact HJ.out _ _ _ HJK.out HC1.out
          clear hkd
          gi_wp2
          exact ⟨⟨k + 1, by omega, by go_num, HJ2⟩, by simp [intOf]; omega⟩
      · have b4 : (ln : Int) ≤ (k : Int) := by omega
        have HJ2 : Hid (J (spkN ts tag ls (k + 1)) (w0.alloc (.cells #[.string y] 9))) := by
          show J _ _
          rw [spkN_skip (by rw [HLN.out]; omega)]
          exact HJ.out _ _ _ HJK.out HC1.out
        gi_wp2
        exact ⟨⟨k + 1, by omega, by go_num, HJ2⟩, by simp [intOf]; omega⟩
    · obtain rfl : k = tn := by omega
      have b1 : ¬ (k : Int) < (k : Int) := by omega
      have HE : Hid (J (spkL tag (ts.zip ls) 0).length wr) := by
        have := HJK.out
        unfold spkN at this
        rw [List.take_of_length_le (by rw [List.length_zip, HN.out]; omega)] at this
        exact this
      gi_wp2
      go_end0
      exact ⟨⟨_, rfl⟩, .inl HE.out⟩
end Go.Proofs.Ythjlgcooihpakaa
