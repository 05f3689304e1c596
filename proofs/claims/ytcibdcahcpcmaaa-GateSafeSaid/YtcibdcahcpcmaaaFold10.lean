import Derived.Test.YtcibdcahcpcmaaaFold08
import Derived.Test.YtcibdcahcpcmaaaFold09
import Derived.Shelf.Abstract
import Derived.Shelf.RegionOpen
import Derived.WalkKit
import Derived.OwnWalkIn
import Derived.TacticsInMore
import Derived.LoopNIn
import Derived.LoopIn
import Derived.Outline
/- Intentions: those that speak, as an iterator. -/
namespace Go.Proofs.Ytcibdcahcpcmaaa
open Go.RowKit
set_option linter.unusedVariables false
set_option linter.unusedSimpArgs false
set_option maxRecDepth 100000
attribute [local go_sem] Oper.semAt_some
/-- How many of the first j speak. -/
def spK (src dst : ByteArray) (l : List Itn) (j : Nat) : Nat := ((l.take j).filter (speaksB src dst)).length
theorem spK_next {src dst : ByteArray} {l : List Itn} {j : Nat} {x : Itn} (hx : l[j]? = some x) : spK src dst l (j + 1) = if speaksB src dst x = true then spK src dst l j + 1 else spK src dst l j := by
  unfold spK
  rw [List.take_add_one, hx, List.filter_append, List.length_append]
  cases h : speaksB src dst x <;> simp [h]
theorem spK_mono {src dst : ByteArray} {l : List Itn} {i j : Nat} (h : i ≤ j) : spK src dst l i ≤ spK src dst l j := by
  unfold spK
  have e : l.take i = (l.take j).take i := by rw [List.take_take, Nat.min_eq_left h]
  rw [e]
  exact ((List.take_sublist i (l.take j)).filter _).length_le
theorem spK_between {src dst : ByteArray} {l : List Itn} {i j k : Nat} {x : Itn} (h : spK src dst l i = spK src dst l k) (h1 : i ≤ j) (h2 : j < k) (hx : l[j]? = some x) : speaksB src dst x = false := by
  cases hs : speaksB src dst x with
  | false => rfl
  | true =>
    have h3 := spK_next (src := src) (dst := dst) hx
    rw [if_pos hs] at h3
    have h4 := spK_mono (src := src) (dst := dst) (l := l) h1
    have h5 := spK_mono (src := src) (dst := dst) (l := l) (show j + 1 ≤ k from h2)
    omega
/-- What the k-th call of yield is handed. -/
def spM (l : List Itn) (src dst : ByteArray) (B k : Nat) (args : Array Value) (W : World) : Prop :=
  ∃ (j : Nat) (x : Itn), l[j]? = some x ∧ speaksB src dst x = true ∧ spK src dst l j = k ∧ args = #[.int .i64 j, .agg (itnC x)]
/-- What the iterator keeps. -/
structure KeptS (b1 b2 b3 : Nat) (ok : Nat → Prop) (T : Option Addr) (n c : Nat) (l : List Itn) (src dst : ByteArray) (W : World) : Prop where
  c1 : W.cell? ⟨b1, 0, none⟩ = some (.slice T n c)
  c2 : W.cell? ⟨b2, 0, none⟩ = some (.string src)
  c3 : W.cell? ⟨b3, 0, none⟩ = some (.string dst)
  cl : itnK.C W ok T l
theorem KeptS.chg {b1 b2 b3 : Nat} {ok S : Nat → Prop} {T : Option Addr} {n c : Nat} {l : List Itn} {src dst : ByteArray} {W W' : World} (h : KeptS b1 b2 b3 ok T n c l src dst W) (hc : Chg S W W') (h1 : ¬ S b1) (h2 : ¬ S b2) (h3 : ¬ S b3) (ho : ∀ b, ok b → ¬ S b) : KeptS b1 b2 b3 ok T n c l src dst W' :=
  ⟨hc.cell h.c1 h1, hc.cell h.c2 h2, hc.cell h.c3 h3, Kd.C_chg h.cl hc ho⟩
theorem KeptS.new {b1 b2 b3 : Nat} {ok : Nat → Prop} {T : Option Addr} {n c : Nat} {l : List Itn} {src dst : ByteArray} {W W' : World} (h : KeptS b1 b2 b3 ok T n c l src dst W) (hc : Chg nob W W') : KeptS b1 b2 b3 ok T n c l src dst W' :=
  h.chg hc (not_nob _) (not_nob _) (not_nob _) (fun _ _ => not_nob _)
set_option maxHeartbeats 4000000 in
theorem i_iter {b1 b2 b3 : Nat} {ok : Nat → Prop} {T : Option Addr} {n c : Nat} {l : List Itn} {src dst : ByteArray} (hn : l.length = n) (hsm : n ≤ 9223372036854775807) (hs : src.size ≤ 9223372036854775807) (hd : dst.size ≤ 9223372036854775807) :
    Iter Try.prog 73 #[.pointer (some ⟨b1, 0, none⟩), .pointer (some ⟨b2, 0, none⟩), .pointer (some ⟨b3, 0, none⟩)] (KeptS b1 b2 b3 ok T n c l src dst) (spM l src dst) (spK src dst l n) := by
  intro ly J Jx W hl hJ hJx hK hY h0
  have HJ := Lib.hid hJ
  have HJx := Lib.hid hJx
  have HK := Lib.hid hK
  have HY := Lib.hid hY
  have H0 : Hid (J (spK src dst l 0) W) := h0
  have HN := Lib.hid hn
  obtain ⟨q1, q2, q3, -⟩ := (hK 0 W h0).2
  show Calls Try.prog 73 #[.func (.yield ly) #[] #[], .pointer (some ⟨b1, 0, none⟩), .pointer (some ⟨b2, 0, none⟩), .pointer (some ⟨b3, 0, none⟩)] W _
  clear hl hJ hJx hK hY h0 hn
  refine (callsIn_wide (n := 0)).1 ?_
  refine callsIn_of_wp Try.func73 rfl trivial ?_ rfl
  simp only [Try.ntmps73, List.size_toArray, List.length_cons, List.length_nil, Nat.reduceAdd, Nat.reduceSub, Array.replicate_succ, Array.replicate_zero, List.push_toArray, List.append_toArray, List.nil_append, List.cons_append]
  gi_wp2
  clear q1 q2 q3
  gi_loopw [9] (fun v wr => ∃ j : Nat, j ≤ n ∧ v = .int .i64 j ∧ Hid (J (spK src dst l j) wr)) (fun v _ => n - (intOf v).toNat)
  case atStart => exact ⟨0, Nat.zero_le _, rfl, H0⟩
  case round =>
    obtain ⟨j, hj, rfl, HJk⟩ := hrel
    clear H0
    by_cases hlt : j < n
    · have e1 : (j : Int) < (n : Int) := by omega
      have e2 : (0 : Int) ≤ (j : Int) := by omega
      obtain ⟨x, hx⟩ : ∃ x, l[j]? = some x := ⟨_, List.getElem?_eq_getElem (by rw [HN.out]; exact hlt)⟩
      have hkp := (HK.out _ _ HJk.out).2
      obtain ⟨b, o, rfl, _, d0, d1, d2, d3, d4⟩ := itn_at hkp.cl hx
      have HX := Lib.hid hx
      have HNX := Lib.hid (spK_next (src := src) (dst := dst) hx)
      have hbx := heap_alloc_new wr (.cells #[.string x.1, .string x.2.1, .bool x.2.2.1, .int .u64 x.2.2.2.1, .int .u64 x.2.2.2.2] 77)
      have hcA : Chg nob wr (wr.alloc (.cells #[.string x.1, .string x.2.1, .bool x.2.2.1, .int .u64 x.2.2.2.1, .int .u64 x.2.2.2.2] 77)) := (Chg.refl nob wr).alloc _
      obtain ⟨wA, hwA⟩ : ∃ wA, wr.alloc (.cells #[.string x.1, .string x.2.1, .bool x.2.2.1, .int .u64 x.2.2.2.1, .int .u64 x.2.2.2.2] 77) = wA := ⟨_, rfl⟩
      rw [hwA] at hbx hcA
      obtain ⟨sb, hsb⟩ : ∃ sb, wr.heap.size = sb := ⟨_, rfl⟩
      rw [hsb] at hbx
      obtain ⟨z0, z1, z2, z3, z4⟩ := row5i hbx
      obtain ⟨-, y2, y3, -⟩ := hkp.new hcA
      have HCA := Lib.hid hcA
      clear hx hkp hbx hcA
      gi_wp2_with fail
      refine ⟨trivial, rfl, (callsIn_wide.2 (n_match x.1 src hs)).mono ?_⟩
      rintro e w2 ⟨rfl, hww⟩
      subst hww
      obtain ⟨m1, hm1⟩ : ∃ m, matchB x.1 src = m := ⟨_, rfl⟩
      rw [hm1]
      have HM1 := Lib.hid hm1
      clear hm1
      cases m1 with
      | false =>
        have HSP : Hid (speaksB src dst x = false) := by show _ = _; unfold speaksB; rw [HM1.out]; rfl
        gi_wp2
        refine ⟨trivial, ?_⟩
        gi_wp2
        refine ⟨fun _ _ => trivial, ?_⟩
        gi_wp2
        exact ⟨⟨j + 1, by omega, by go_num, by rw [HNX.out, HSP.out, if_neg (by simp)]; exact HJ.out _ _ _ HJk.out HCA.out⟩, by simp [intOf]; omega⟩
      | true =>
        gi_wp2_with fail
        refine ⟨trivial, rfl, (callsIn_wide.2 (n_match x.2.1 dst hd)).mono ?_⟩
        rintro e w2 ⟨rfl, hww⟩
        subst hww
        obtain ⟨m2, hm2⟩ : ∃ m, matchB x.2.1 dst = m := ⟨_, rfl⟩
        rw [hm2]
        have HM2 := Lib.hid hm2
        clear hm2
        cases m2 with
        | false =>
          have HSP : Hid (speaksB src dst x = false) := by show _ = _; unfold speaksB; rw [HM2.out, Bool.and_false]
          gi_wp2
          refine ⟨fun _ _ => trivial, ?_⟩
          gi_wp2
          exact ⟨⟨j + 1, by omega, by go_num, by rw [HNX.out, HSP.out, if_neg (by simp)]; exact HJ.out _ _ _ HJk.out HCA.out⟩, by simp [intOf]; omega⟩
        | true =>
          have HSP : Hid (speaksB src dst x = true) := by show _ = _; unfold speaksB; rw [HM1.out, HM2.out]; rfl
          have hkl : spK src dst l j < spK src dst l n := by
            have h1 := HNX.out
            rw [HSP.out, if_pos rfl] at h1
            have h2 := spK_mono (src := src) (dst := dst) (l := l) (show j + 1 ≤ n from hlt)
            omega
          have HKL := Lib.hid hkl
          obtain ⟨fn, tmps, assign, body, hy, hR⟩ := HY.out _ _ _ _ hkl HJk.out HCA.out ⟨j, x, HX.out, HSP.out, rfl, rfl⟩
          unfold itnC at hy
          clear hkl
          gi_wp2_with fail
          refine ⟨rfl, hR.mono ?_⟩
          rintro e w3 (⟨rfl, hj3⟩ | ⟨rfl, hjx⟩)
          · have HJ4 : Hid (J (spK src dst l (j + 1)) w3) := by show J _ _; rw [HNX.out, HSP.out, if_pos rfl]; exact hj3
            clear hj3 hy z0 z1 z2 z3 z4 y2 y3
            gi_wp2
            exact ⟨⟨j + 1, by omega, by go_num, HJ4⟩, by simp [intOf]; omega⟩
          · have HJX := Lib.hid hjx
            clear hjx hy z0 z1 z2 z3 z4 y2 y3
            gi_wp2
            refine bodyPost_ret (results_none rfl _ _ _) rfl ?_
            exact ⟨⟨_, rfl⟩, .inr ⟨_, HKL.out, HJX.out⟩⟩
    · obtain rfl : j = n := by omega
      have e1 : ¬ (j : Int) < (j : Int) := by omega
      gi_wp2
      go_end0
      exact ⟨⟨_, rfl⟩, .inl HJk.out⟩
#print axioms i_iter
end Go.Proofs.Ytcibdcahcpcmaaa
