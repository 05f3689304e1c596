import Derived.Test.YtcibdcahcpcmaaaFold46
import Derived.Test.YtcibdcahcpcmaaaFold48
/- The gate's law: the caches of a case. -/
namespace Go.Proofs.Ytcibdcahcpcmaaa
open Go.RowKit
set_option linter.unusedVariables false
set_option linter.unusedSimpArgs false
set_option maxRecDepth 100000
theorem row7c {w : World} {g t : Nat} {a0 a1 a2 a3 a4 a5 a6 : Value} (h : w.heap[g]? = some (.cells #[a0, a1, a2, a3, a4, a5, a6] t (0, 0))) :
    w.cell? ⟨g, 0, none⟩ = some a0 ∧ w.cell? ⟨g, 1, none⟩ = some a1 ∧ w.cell? ⟨g, 2, none⟩ = some a2 ∧ w.cell? ⟨g, 3, none⟩ = some a3 ∧ w.cell? ⟨g, 4, none⟩ = some a4 ∧ w.cell? ⟨g, 5, none⟩ = some a5 ∧ w.cell? ⟨g, 6, none⟩ = some a6 :=
  ⟨by rw [cell_of_row _ _ _ _ _ _ h]; rfl, by rw [cell_of_row _ _ _ _ _ _ h]; rfl, by rw [cell_of_row _ _ _ _ _ _ h]; rfl, by rw [cell_of_row _ _ _ _ _ _ h]; rfl, by rw [cell_of_row _ _ _ _ _ _ h]; rfl, by rw [cell_of_row _ _ _ _ _ _ h]; rfl, by rw [cell_of_row _ _ _ _ _ _ h]; rfl⟩
def Knows (w : World) (okl : Nat → Prop) (e : Ending) (w' : World) : Prop := ∃ c g, e = .returned (.tuple #[.pointer (some ⟨c, 0, none⟩), .pointer (some ⟨g, 0, none⟩)]) ∧ PlSt w w' okl nob c g 12 ∧ Chg nob w w'
set_option maxHeartbeats 8000000 in
theorem g_known {w : World} {okl : Nat → Prop} {NA AA : Option Addr} {n1 c1 n2 c2 : Nat} {ns : List ByteArray} {asl : List Ans} (hN : strK.C w okl NA ns) (hA : ansK.C w okl AA asl) (hn1 : ns.length = n1) (hn2 : asl.length = n2) (hok : ∀ b, okl b → b < w.heap.size) (hz : ∀ s ∈ ns, s.size ≤ 9223372036854775807) (k0 k1 : Int) (sh : Value) (dst : ByteArray) (df : Bool) :
    Calls Try.prog 6 #[.agg #[.slice NA n1 c1, .slice AA n2 c2, .int .u64 k0, .int .u64 k1, sh, .string dst, .bool df]] w (Knows w okl) := by
  obtain ⟨cb, hcb⟩ : ∃ cb, w.heap.size = cb := ⟨_, rfl⟩
  obtain ⟨w1, hw1⟩ : ∃ w1, w.alloc (.cells #[.slice NA n1 c1, .slice AA n2 c2, .int .u64 k0, .int .u64 k1, sh, .string dst, .bool df] 28) = w1 := ⟨_, rfl⟩
  have hb1 := heap_alloc_new w (.cells #[.slice NA n1 c1, .slice AA n2 c2, .int .u64 k0, .int .u64 k1, sh, .string dst, .bool df] 28)
  have hc1 : Chg nob w w1 := by rw [← hw1]; exact (Chg.refl nob w).alloc _
  rw [hw1, hcb] at hb1
  have hz1 : w1.heap.size = cb + 1 := by rw [← hw1, World.size_alloc, hcb]
  have HB1 := Lib.hid hb1
  have HC1 := Lib.hid hc1
  have HNN := Lib.hid hN
  have HAA := Lib.hid hA
  have HN1 := Lib.hid hn1
  have HN2 := Lib.hid hn2
  have HOK := Lib.hid hok
  have HZ := Lib.hid hz
  have HCB := Lib.hid hcb
  have hs1 := hN.small
  have hs2 := hA.small
  rw [hn1] at hs1
  rw [hn2] at hs2
  have HZ1 := Lib.hid hz1
  have HW1 := Lib.hid hw1
  clear hb1 hc1 hN hA hn1 hn2 hok hz hz1 hw1
  go_enter Try.func6, Try.ntmps6
  go_wp2_with fail
  rw [HW1.out]
  refine (ca_new w1 nob).mono ?_
  rintro e w2 ⟨c, rfl, hcw, hst, hc2⟩
  obtain ⟨g0, hg0⟩ : ∃ g0, w2.heap.size = g0 := ⟨_, rfl⟩
  have hb3 := heap_alloc_new w2 (.cells #[.slice none 0 0, .slice none 0 0] 68)
  have hc3 : Chg nob w2 (w2.alloc (.cells #[.slice none 0 0, .slice none 0 0] 68)) := (Chg.refl nob w2).alloc _
  rw [hg0] at hb3
  have HS0 : Hid (PlSt w (w2.alloc (.cells #[.slice none 0 0, .slice none 0 0] 68)) okl (fun b => b = cb) c g0 0) := ⟨_, _, _, _, PlD.cleared hst (fun b hb => ⟨by have := HC1.out.size; omega, hb.2, fun e => by have h1 : b = cb := e; have := HZ1.out; omega⟩) (fun b hb => by have h1 : b = cb := hb; have := HZ1.out; have := hc2.size; omega) (HC1.out.thenNew hc2) hg0 hc3 hb3⟩
  have HBX0 := Lib.hid (hc3.heap (hc2.heap HB1.out (not_nob _)) (not_nob _))
  clear hcw hst hc2 hb3 hc3 hcb
  go_wp2
  go_loopw [6] (fun i wr => ∃ j : Nat, j ≤ n1 ∧ j ≤ n2 ∧ j ≤ 12 ∧ i = .int .i64 j ∧ Hid (PlSt w wr okl (fun b => b = cb) c g0 j) ∧ Hid (wr.heap[cb]? = some (.cells #[.slice NA n1 c1, .slice AA n2 c2, .int .u64 k0, .int .u64 k1, sh, .string dst, .bool df] 28 (0, 0)))) (fun i _ => 12 - (intOf i).toNat)
  case atStart => exact ⟨0, Nat.zero_le _, Nat.zero_le _, Nat.zero_le _, rfl, HS0, HBX0⟩
  case round =>
    obtain ⟨j, hj1, hj2, hj3, rfl, HS, HBX⟩ := hrel
    obtain ⟨x0, x1, x2, x3, x4, x5, x6⟩ := row7c HBX.out
    have HEND : Hid (Knows w okl (.returned (.tuple #[.pointer (some ⟨c, 0, none⟩), .pointer (some ⟨g0, 0, none⟩)])) wr) := by
      obtain ⟨own, rown, l, m, hd⟩ := HS.out.ex
      exact ⟨c, g0, rfl, ⟨own, rown, l, m, ⟨hd.cst, hd.rst, fun b hb => ⟨(hd.own b hb).1, (hd.own b hb).2.1, (hd.own b hb).2.2.1, not_nob _⟩, fun b hb => ⟨(hd.rown b hb).1, (hd.rown b hb).2.1, not_nob _⟩, Nat.le_trans hd.len hj3, hd.chg⟩⟩, hd.chg⟩
    by_cases hl1 : j < n1
    · have b1 : (j : Int) < (n1 : Int) := by omega
      have b0 : (0 : Int) ≤ (j : Int) := by omega
      by_cases hl2 : j < n2
      · have b2 : (j : Int) < (n2 : Int) := by omega
        by_cases hl3 : j < 12
        · have b3 : (j : Int) < 12 := by omega
          obtain ⟨s, hs⟩ : ∃ s, ns[j]? = some s := ⟨_, List.getElem?_eq_getElem (by rw [HN1.out]; exact hl1)⟩
          obtain ⟨a, ha⟩ : ∃ a, asl[j]? = some a := ⟨_, List.getElem?_eq_getElem (by rw [HN2.out]; exact hl2)⟩
          have HCW : Hid (Chg nob w wr) := by obtain ⟨own, rown, l, m, hd⟩ := HS.out.ex; exact hd.chg
          obtain ⟨ad, rfl, _, hsc⟩ := at_scalar (Kd.C_new HNN.out HCW.out) hs
          obtain ⟨ab, ao, ac, rfl, hab, hka, hac⟩ := Kd.C_at' HAA.out ha
          have HSZ : Hid (QSz (5, 0, s, ⟨#[]⟩, ⟨#[]⟩, false)) := ⟨HZ.out s (List.mem_of_getElem? hs), (show (0 : Nat) ≤ 9223372036854775807 by decide), (show (0 : Nat) ≤ 9223372036854775807 by decide)⟩
          obtain ⟨S, nS, sd, Kx, nK, kd, N, nN, nd, I, nI, id, E, nE, ed, T, nT, td, hlit⟩ := ans_lits (cs := ac.toArray) (by simpa using hka)
          have hlit' : ac = (#[.int .i64 a.1, .int .u64 a.2.1, .bool a.2.2.1.1, .int .i64 a.2.2.1.2.1, .string a.2.2.1.2.2.1, .slice S nS sd, .slice Kx nK kd, .slice N nN nd, .slice I nI id, .slice E nE ed, .slice T nT td] : Array Value).toList := congrArg Array.toList hlit
          subst hlit'
          have HKA := Lib.hid hka
          have HRNG : Hid (w.rangeAt ab (ao + j * 11) (#[.int .i64 a.1, .int .u64 a.2.1, .bool a.2.2.1.1, .int .i64 a.2.2.1.2.1, .string a.2.2.1.2.2.1, .slice S nS sd, .slice Kx nK kd, .slice N nN nd, .slice I nI id, .slice E nE ed, .slice T nT td] : Array Value).toList) := fun i v hv => hac i v hv
          have HABL := Lib.hid (HOK.out ab hab)
          have hcx := (Chg.refl nob wr).alloc (.cells #[.int .i64 5, .int .i64 0, .string s, .string ⟨#[]⟩, .string ⟨#[]⟩, .bool false] 61)
          have hbx := heap_alloc_new wr (.cells #[.int .i64 5, .int .i64 0, .string s, .string ⟨#[]⟩, .string ⟨#[]⟩, .bool false] 61)
          have hsc' : wr.cell? (ad.add j) = some (.string s) := hsc
          clear hs ha hab hka hac hlit hsc
          go_upto_region 7 with fail
          obtain ⟨wq, hwq⟩ : ∃ wq, wr.alloc (.cells #[.int .i64 5, .int .i64 0, .string s, .string ⟨#[]⟩, .string ⟨#[]⟩, .bool false] 61) = wq := ⟨_, rfl⟩
          rw [hwq] at hcx hbx ⊢
          obtain ⟨qb, hqb⟩ : ∃ qb, wr.heap.size = qb := ⟨_, rfl⟩
          rw [hqb] at hbx ⊢
          obtain ⟨own, rown, l, m, hd⟩ := HS.out.ex
          have hqne : cb < qb := by rw [← hqb]; exact heap_lt HBX.out
          have HD := Lib.hid (((hd.add).imp (Y := fun b => b = cb ∨ b = qb) (fun b hb => hb.imp (fun h => h) (fun h => by rw [h, hqb]; exact Nat.le_refl _))).new hcx)
          have HBQ := Lib.hid hbx
          have HBC := Lib.hid (hcx.heap HBX.out (not_nob _))
          have HML : Hid (m.length ≤ 1000) := by show _ ≤ _; rw [hd.mlen]; have := hd.len; omega
          have HLL : Hid (l.length ≤ 1000) := by show _ ≤ _; have := hd.len; omega
          have HCQ := Lib.hid (HCW.out.thenNew hcx)
          clear hd hcx hbx hwq hqb hsc' x0 x1 x2 x3 x4 x5 x6 HS HBX
          have HDD := Lib.hid (HD.out.new (wy := wq.drew) ((Chg.refl nob wq).drew))
          have HKD : Hid (ansK.K wq.drew okl a (#[.int .i64 a.1, .int .u64 a.2.1, .bool a.2.2.1.1, .int .i64 a.2.2.1.2.1, .string a.2.2.1.2.2.1, .slice S nS sd, .slice Kx nK kd, .slice N nN nd, .slice I nI id, .slice E nE ed, .slice T nT td] : Array Value).toList) := Kd.chg HKA.out (HDD.out.chg) (fun b _ => not_nob b)
          have HUP : Hid (∀ wx, Chg (fun b => own b ∨ rown b) wq wx → wx.heap[cb]? = some (.cells #[.slice (some ad) n1 c1, .slice (some ⟨ab, ao, none⟩) n2 c2, .int .u64 k0, .int .u64 k1, sh, .string dst, .bool df] 28 (0, 0)) ∧ wx.heap[qb]? = some (.cells #[.int .i64 5, .int .i64 0, .string s, .string ⟨#[]⟩, .string ⟨#[]⟩, .bool false] 61 (0, 0)) ∧ wx.rangeAt ab (ao + j * 11) (#[.int .i64 a.1, .int .u64 a.2.1, .bool a.2.2.1.1, .int .i64 a.2.2.1.2.1, .string a.2.2.1.2.2.1, .slice S nS sd, .slice Kx nK kd, .slice N nN nd, .slice I nI id, .slice E nE ed, .slice T nT td] : Array Value).toList) := fun wx hc =>
            ⟨hc.heap HBC.out (fun e => e.elim (fun e => (HD.out.own cb e).2.2.2 (.inl rfl)) (fun e => (HD.out.rown cb e).2.2 (.inl rfl))), hc.heap HBQ.out (fun e => e.elim (fun e => (HD.out.own qb e).2.2.2 (.inr rfl)) (fun e => (HD.out.rown qb e).2.2 (.inr rfl))), rng_chg (rng_chg HRNG.out HCQ.out (not_nob _)) hc (fun e => by have h1 := HABL.out; rcases e with e | e; have := (HD.out.own ab e).1; omega; have := (HD.out.rown ab e).1; omega)⟩
          refine wp_region_held_drew (S := fun wx => Chg (fun b => own b ∨ rown b) wq wx) (by kernel_rfl) (((Chg.refl _ wq).drew)) (fun hHeld => ?_)
          refine wpAnyH_take (i := 0) (v := ?_) pick0 (by kernel_rfl) (by kernel_rfl) (by kernel_rfl) (fun _ _ _ h => h) (Or.inl ⟨by rfl, ?_⟩) (by assumption) ?_
          rotate_left 1
          · (intro wx hSw; go_simp; try with_reducible rfl)
          try simp only [Act.put, List.setIfInBounds_toArray, List.set_cons_zero, List.set_cons_succ]
          refine wpAnyH_take (i := 1) (v := ?_) (pickS pick0) (by kernel_rfl) (by kernel_rfl) (by kernel_rfl) (fun _ _ _ h => h) (Or.inl ⟨by rfl, ?_⟩) (by assumption) ?_
          rotate_left 1
          · (intro wx hSw; obtain ⟨s0, s1, s2, s3, s4, s5⟩ := row6 (HUP.out _ hSw).2.1; go_simp; try with_reducible rfl)
          try simp only [Act.put, List.setIfInBounds_toArray, List.set_cons_zero, List.set_cons_succ]
          refine wpAnyH_take (i := 2) (v := ?_) (pickS (pickS pick0)) (by kernel_rfl) (by kernel_rfl) (by kernel_rfl) (fun _ _ _ h => h) (Or.inl ⟨by rfl, ?_⟩) (by assumption) ?_
          rotate_left 1
          · (intro wx hSw; go_simp; try with_reducible rfl)
          try simp only [Act.put, List.setIfInBounds_toArray, List.set_cons_zero, List.set_cons_succ]
          refine wpAnyH_take (i := 3) (v := ?_) (pickS (pickS (pickS pick0))) (by kernel_rfl) (by kernel_rfl) (by kernel_rfl) (fun _ _ _ h => h) (Or.inl ⟨by rfl, ?_⟩) (by assumption) ?_
          rotate_left 1
          · (intro wx hSw; obtain ⟨x0, x1, x2, x3, x4, x5, x6⟩ := row7c (HUP.out _ hSw).1; go_simp; try with_reducible rfl)
          try simp only [Act.put, List.setIfInBounds_toArray, List.set_cons_zero, List.set_cons_succ]
          refine wpAnyH_take (i := 4) (v := ?_) (pickS (pickS (pickS (pickS pick0)))) (by kernel_rfl) (by kernel_rfl) (by kernel_rfl) (fun _ _ _ h => h) (Or.inl ⟨by rfl, ?_⟩) (by assumption) ?_
          rotate_left 1
          · (intro wx hSw; go_simp; try with_reducible rfl)
          try simp only [Act.put, List.setIfInBounds_toArray, List.set_cons_zero, List.set_cons_succ]
          refine wpAnyH_take (i := 5) (v := ?_) (pickS (pickS (pickS (pickS (pickS pick0))))) (by kernel_rfl) (by kernel_rfl) (by kernel_rfl) (fun _ _ _ h => h) (Or.inl ⟨by rfl, ?_⟩) (by assumption) ?_
          rotate_left 1
          · (intro wx hSw; go_simp; try with_reducible rfl)
          try simp only [Act.put, List.setIfInBounds_toArray, List.set_cons_zero, List.set_cons_succ]
          refine wpAnyH_take (i := 6) (v := ?_) (pickS (pickS (pickS (pickS (pickS (pickS pick0)))))) (by kernel_rfl) (by kernel_rfl) (by kernel_rfl) (fun _ _ _ h => h) (Or.inl ⟨by rfl, ?_⟩) (by assumption) ?_
          rotate_left 1
          · (intro wx hSw; have e0 : wx.cell? ⟨ab, ao + j * 11, none⟩ = some (.int .i64 a.1) := (HUP.out _ hSw).2.2 0 _ rfl; have e1 : wx.cell? ⟨ab, ao + j * 11 + 1, none⟩ = some (.int .u64 a.2.1) := (HUP.out _ hSw).2.2 1 _ rfl; have e2 : wx.cell? ⟨ab, ao + j * 11 + 2, none⟩ = some (.bool a.2.2.1.1) := (HUP.out _ hSw).2.2 2 _ rfl; have e3 : wx.cell? ⟨ab, ao + j * 11 + 3, none⟩ = some (.int .i64 a.2.2.1.2.1) := (HUP.out _ hSw).2.2 3 _ rfl; have e4 : wx.cell? ⟨ab, ao + j * 11 + 4, none⟩ = some (.string a.2.2.1.2.2.1) := (HUP.out _ hSw).2.2 4 _ rfl; have e5 : wx.cell? ⟨ab, ao + j * 11 + 5, none⟩ = some (.slice S nS sd) := (HUP.out _ hSw).2.2 5 _ rfl; have e6 : wx.cell? ⟨ab, ao + j * 11 + 6, none⟩ = some (.slice Kx nK kd) := (HUP.out _ hSw).2.2 6 _ rfl; have e7 : wx.cell? ⟨ab, ao + j * 11 + 7, none⟩ = some (.slice N nN nd) := (HUP.out _ hSw).2.2 7 _ rfl; have e8 : wx.cell? ⟨ab, ao + j * 11 + 8, none⟩ = some (.slice I nI id) := (HUP.out _ hSw).2.2 8 _ rfl; have e9 : wx.cell? ⟨ab, ao + j * 11 + 9, none⟩ = some (.slice E nE ed) := (HUP.out _ hSw).2.2 9 _ rfl; have e10 : wx.cell? ⟨ab, ao + j * 11 + 10, none⟩ = some (.slice T nT td) := (HUP.out _ hSw).2.2 10 _ rfl; go_simp; try with_reducible rfl)
          try simp only [Act.put, List.setIfInBounds_toArray, List.set_cons_zero, List.set_cons_succ]
          refine wpAnyH_ready (rs := [7]) (by kernel_rfl) (by simp) ?_
          refine AllReadyH.cons (pickS (pickS (pickS (pickS (pickS (pickS (pickS pick0))))))) (fun K hK => ?_) AllReadyH.nil
          go_simp
          refine (ca_put HDD.out.cst (fun b hb => (HDD.out.own b hb).2.1) (fun b hb => (HDD.out.rown b hb).2.1) HLL.out HKD.out (fun b hb => ⟨fun h => h.elim (fun h => by have h2 := HOK.out b hb; have := (HDD.out.own b h).1; omega) (fun h => by have h2 := HOK.out b hb; have := (HDD.out.rown b h).1; omega), Nat.lt_of_lt_of_le (HOK.out b hb) HDD.out.chg.size⟩) (5, 0, s, ⟨#[]⟩, ⟨#[]⟩, false) HSZ.out).mono ?_
          rintro e w5 ⟨rfl, hp⟩
          have HP := Lib.hid hp
          have HCO : Hid (Chg own wq.drew w5) := by obtain ⟨own', h1, h2, h3, h4, h5⟩ := hp.ex; exact h2
          have HC5 : Hid (Chg (fun b => own b ∨ rown b) wq w5) := ((Chg.refl (fun b => own b ∨ rown b) wq).drew).trans HCO.out (fun i hi => .inl (.inl hi))
          clear hp
          go_wp2_with fail
          refine hK.out _ _ (HC5.out) (fun hHeld => ?_)
          clear hK K
          try simp only [Act.put, List.setIfInBounds_toArray, List.set_cons_zero, List.set_cons_succ]
          refine wpAnyH_done (by kernel_rfl) ?_ _
          go_wp2
          refine wp_region_held_drew (S := fun wx => Chg (fun b => own b ∨ rown b) wq wx) (by kernel_rfl) ((HC5.out.drew)) (fun hHeld => ?_)
          refine wpAnyH_take (i := 0) (v := ?_) pick0 (by kernel_rfl) (by kernel_rfl) (by kernel_rfl) (fun _ _ _ h => h) (Or.inl ⟨by rfl, ?_⟩) (by assumption) ?_
          rotate_left 1
          · (intro wx hSw; go_simp; try with_reducible rfl)
          try simp only [Act.put, List.setIfInBounds_toArray, List.set_cons_zero, List.set_cons_succ]
          refine wpAnyH_take (i := 1) (v := ?_) (pickS pick0) (by kernel_rfl) (by kernel_rfl) (by kernel_rfl) (fun _ _ _ h => h) (Or.inl ⟨by rfl, ?_⟩) (by assumption) ?_
          rotate_left 1
          · (intro wx hSw; obtain ⟨s0, s1, s2, s3, s4, s5⟩ := row6 (HUP.out _ hSw).2.1; go_simp; try with_reducible rfl)
          try simp only [Act.put, List.setIfInBounds_toArray, List.set_cons_zero, List.set_cons_succ]
          refine wpAnyH_take (i := 2) (v := ?_) (pickS (pickS pick0)) (by kernel_rfl) (by kernel_rfl) (by kernel_rfl) (fun _ _ _ h => h) (Or.inl ⟨by rfl, ?_⟩) (by assumption) ?_
          rotate_left 1
          · (intro wx hSw; go_simp; try with_reducible rfl)
          try simp only [Act.put, List.setIfInBounds_toArray, List.set_cons_zero, List.set_cons_succ]
          refine wpAnyH_take (i := 3) (v := ?_) (pickS (pickS (pickS pick0))) (by kernel_rfl) (by kernel_rfl) (by kernel_rfl) (fun _ _ _ h => h) (Or.inl ⟨by rfl, ?_⟩) (by assumption) ?_
          rotate_left 1
          · (intro wx hSw; obtain ⟨x0, x1, x2, x3, x4, x5, x6⟩ := row7c (HUP.out _ hSw).1; go_simp; try with_reducible rfl)
          try simp only [Act.put, List.setIfInBounds_toArray, List.set_cons_zero, List.set_cons_succ]
          refine wpAnyH_take (i := 4) (v := ?_) (pickS (pickS (pickS (pickS pick0)))) (by kernel_rfl) (by kernel_rfl) (by kernel_rfl) (fun _ _ _ h => h) (Or.inl ⟨by rfl, ?_⟩) (by assumption) ?_
          rotate_left 1
          · (intro wx hSw; go_simp; try with_reducible rfl)
          try simp only [Act.put, List.setIfInBounds_toArray, List.set_cons_zero, List.set_cons_succ]
          refine wpAnyH_take (i := 5) (v := ?_) (pickS (pickS (pickS (pickS (pickS pick0))))) (by kernel_rfl) (by kernel_rfl) (by kernel_rfl) (fun _ _ _ h => h) (Or.inl ⟨by rfl, ?_⟩) (by assumption) ?_
          rotate_left 1
          · (intro wx hSw; go_simp; try with_reducible rfl)
          try simp only [Act.put, List.setIfInBounds_toArray, List.set_cons_zero, List.set_cons_succ]
          refine wpAnyH_take (i := 6) (v := ?_) (pickS (pickS (pickS (pickS (pickS (pickS pick0)))))) (by kernel_rfl) (by kernel_rfl) (by kernel_rfl) (fun _ _ _ h => h) (Or.inl ⟨by rfl, ?_⟩) (by assumption) ?_
          rotate_left 1
          · (intro wx hSw; have e0 : wx.cell? ⟨ab, ao + j * 11, none⟩ = some (.int .i64 a.1) := (HUP.out _ hSw).2.2 0 _ rfl; have e1 : wx.cell? ⟨ab, ao + j * 11 + 1, none⟩ = some (.int .u64 a.2.1) := (HUP.out _ hSw).2.2 1 _ rfl; have e2 : wx.cell? ⟨ab, ao + j * 11 + 2, none⟩ = some (.bool a.2.2.1.1) := (HUP.out _ hSw).2.2 2 _ rfl; have e3 : wx.cell? ⟨ab, ao + j * 11 + 3, none⟩ = some (.int .i64 a.2.2.1.2.1) := (HUP.out _ hSw).2.2 3 _ rfl; have e4 : wx.cell? ⟨ab, ao + j * 11 + 4, none⟩ = some (.string a.2.2.1.2.2.1) := (HUP.out _ hSw).2.2 4 _ rfl; have e5 : wx.cell? ⟨ab, ao + j * 11 + 5, none⟩ = some (.slice S nS sd) := (HUP.out _ hSw).2.2 5 _ rfl; have e6 : wx.cell? ⟨ab, ao + j * 11 + 6, none⟩ = some (.slice Kx nK kd) := (HUP.out _ hSw).2.2 6 _ rfl; have e7 : wx.cell? ⟨ab, ao + j * 11 + 7, none⟩ = some (.slice N nN nd) := (HUP.out _ hSw).2.2 7 _ rfl; have e8 : wx.cell? ⟨ab, ao + j * 11 + 8, none⟩ = some (.slice I nI id) := (HUP.out _ hSw).2.2 8 _ rfl; have e9 : wx.cell? ⟨ab, ao + j * 11 + 9, none⟩ = some (.slice E nE ed) := (HUP.out _ hSw).2.2 9 _ rfl; have e10 : wx.cell? ⟨ab, ao + j * 11 + 10, none⟩ = some (.slice T nT td) := (HUP.out _ hSw).2.2 10 _ rfl; go_simp; try with_reducible rfl)
          try simp only [Act.put, List.setIfInBounds_toArray, List.set_cons_zero, List.set_cons_succ]
          refine wpAnyH_ready (rs := [7]) (by kernel_rfl) (by simp) ?_
          refine AllReadyH.cons (pickS (pickS (pickS (pickS (pickS (pickS (pickS pick0))))))) (fun K hK => ?_) AllReadyH.nil
          go_simp
          have HCD : Hid (Chg own wq.drew w5.drew) := HCO.out.drew
          refine (rf_put (HDD.out.rst.chg HCD.out (fun b hb e => (HDD.out.own b e).2.2.1 hb) (fun b hb e => by have := HOK.out b hb; have := (HDD.out.own b e).1; omega)) (fun b hb => Nat.lt_of_lt_of_le (HDD.out.rown b hb).2.1 HCD.out.size) HML.out (fun b hb => ⟨fun e => by have := HOK.out b hb; have := (HDD.out.rown b e).1; omega, Nat.lt_of_lt_of_le (HOK.out b hb) (Nat.le_trans HDD.out.chg.size HCD.out.size)⟩) (Kd.chg HKD.out HCD.out (fun b hb e => by have := HOK.out b hb; have := (HDD.out.own b e).1; omega)) (5, 0, s, ⟨#[]⟩, ⟨#[]⟩, false) HSZ.out).mono ?_
          rintro e w6 ⟨rfl, hp⟩
          have HPL : Hid (PlSt w w6 okl (fun b => b = cb ∨ b = qb) c g0 (j + 1)) := PlD.put (fun b hb => by rcases hb with hb | hb; rw [hb]; exact heap_lt HBC.out; rw [hb]; exact heap_lt HBQ.out) HOK.out HDD.out (putL_len l _ _) (HP.out.new ((Chg.refl nob w5).drew)) hp
          have HC6 : Hid (Chg (fun b => own b ∨ rown b) wq w6) := by obtain ⟨rown', m', h1, h2, h3, h4, h5, h6⟩ := hp.ex; exact (HC5.out.drew).trans h3 (fun i hi => .inl (.inr hi))
          clear hp
          go_wp2_with fail
          refine hK.out _ _ (HC6.out) (fun hHeld => ?_)
          clear hK K
          try simp only [Act.put, List.setIfInBounds_toArray, List.set_cons_zero, List.set_cons_succ]
          refine wpAnyH_done (by kernel_rfl) ?_ _
          have HBE := Lib.hid (HUP.out _ HC6.out).1
          go_wp2
          have HPE : Hid (PlSt w w6 okl (fun b => b = cb) c g0 (j + 1)) := by obtain ⟨own', rown', l', m', hd'⟩ := HPL.out.ex; exact ⟨own', rown', l', m', hd'.imp (fun b hb => .inl hb)⟩
          exact ⟨⟨j + 1, by omega, by omega, by omega, by go_num, HPE, HBE⟩, by simp [intOf]; omega⟩
        · have b3 : ¬ (j : Int) < 12 := by omega
          go_wp2
          go_ret2
          exact HEND.out
      · have b2 : ¬ (j : Int) < (n2 : Int) := by omega
        go_wp2
        go_ret2
        exact HEND.out
    · have b1 : ¬ (j : Int) < (n1 : Int) := by omega
      go_wp2
      go_ret2
      exact HEND.out
end Go.Proofs.Ytcibdcahcpcmaaa
