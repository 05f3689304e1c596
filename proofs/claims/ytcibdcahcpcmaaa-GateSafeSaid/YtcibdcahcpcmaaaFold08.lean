import Derived.Test.YtcibdcahcpcmaaaFold04
import Derived.Test.YtcibdcahcpcmaaaFold07
/- Intentions: whether one speaks of a source and a destination, and how exact it is: the program's and the reference's word. -/
namespace Go.Proofs.Ytcibdcahcpcmaaa
open Go.RowKit
set_option linter.unusedVariables false
set_option linter.unusedSimpArgs false
set_option maxRecDepth 100000
def starS : ByteArray := ⟨#[42]⟩
def matchB (p s : ByteArray) : Bool := nameB (strL s) && (decide (p = starS) || decide (p = s))
theorem star_eq (p : ByteArray) : (p.toList == [42]) = decide (p = starS) := by
  have := str_eq p starS
  rw [show starS.toList = [42] from by rw [ByteArray.toList_eq]; rfl] at this
  exact this
theorem n_match {w : World} (p s : ByteArray) (hs : s.size ≤ 9223372036854775807) :
    Calls Try.prog 74 #[.string p, .string s] w fun e w' => e = .returned (.bool (matchB p s)) ∧ w' = w := by
  have h1 := star_eq p
  have h2 := str_eq p s
  have HM : Hid (matchB p s = (nameB (strL s) && (decide (p = starS) || decide (p = s)))) := rfl
  go_enter Try.func74, Try.ntmps74
  go_wp2_with fail
  refine (n_right s hs).mono ?_
  rintro e w2 ⟨rfl, hww⟩
  subst hww
  obtain ⟨a, ha⟩ : ∃ a, nameB (strL s) = a := ⟨_, rfl⟩
  obtain ⟨b, hb⟩ : ∃ b, decide (p = starS) = b := ⟨_, rfl⟩
  obtain ⟨c, hc⟩ : ∃ c, decide (p = s) = c := ⟨_, rfl⟩
  rw [hb] at h1
  rw [hc] at h2
  rw [ha, hb, hc] at HM
  rw [ha]
  clear ha hb hc
  cases a <;> cases b <;> cases c
  all_goals
    go_wp2
    go_ret
    rw [HM.out]
    exact ⟨rfl, rfl⟩
theorem r_match {w : World} (p s : ByteArray) (hs : s.size ≤ 9223372036854775807) :
    Calls Try.prog 28 #[.string p, .string s] w fun e w' => e = .returned (.bool (matchB p s)) ∧ w' = w := by
  have h1 := star_eq p
  have h2 := str_eq p s
  have HM : Hid (matchB p s = (nameB (strL s) && (decide (p = starS) || decide (p = s)))) := rfl
  go_enter Try.func28, Try.ntmps28
  go_wp2_with fail
  refine (r_right s hs).mono ?_
  rintro e w2 ⟨rfl, hww⟩
  subst hww
  obtain ⟨a, ha⟩ : ∃ a, nameB (strL s) = a := ⟨_, rfl⟩
  obtain ⟨b, hb⟩ : ∃ b, decide (p = starS) = b := ⟨_, rfl⟩
  obtain ⟨c, hc⟩ : ∃ c, decide (p = s) = c := ⟨_, rfl⟩
  rw [hb] at h1
  rw [hc] at h2
  rw [ha, hb, hc] at HM
  rw [ha]
  clear ha hb hc
  cases a <;> cases b <;> cases c
  all_goals
    go_wp2
    go_ret
    rw [HM.out]
    exact ⟨rfl, rfl⟩
/-- The cells of an intention. -/
def itnC (i : Itn) : Array Value := #[.string i.1, .string i.2.1, .bool i.2.2.1, .int .u64 i.2.2.2.1, .int .u64 i.2.2.2.2]
theorem itn_cells {w : World} {ok : Nat → Prop} {i : Itn} {cs : List Value} (h : itnK.K w ok i cs) : cs = (itnC i).toList := by
  obtain ⟨c0, _, e, h0, c1, _, rfl, h1, c2, _, rfl, h2, c3, c4, rfl, h3, h4⟩ := h
  have h0' : c0 = [.string i.1] := h0
  have h1' : c1 = [.string i.2.1] := h1
  have h2' : c2 = [.bool i.2.2.1] := h2
  have h3' : c3 = [.int .u64 i.2.2.2.1] := h3
  have h4' : c4 = [.int .u64 i.2.2.2.2] := h4
  subst h0' h1' h2' h3' h4'
  exact e
theorem row5i {w : World} {g t : Nat} {a0 a1 a2 a3 a4 : Value} (h : w.heap[g]? = some (.cells #[a0, a1, a2, a3, a4] t (0, 0))) :
    w.cell? ⟨g, 0, none⟩ = some a0 ∧ w.cell? ⟨g, 1, none⟩ = some a1 ∧ w.cell? ⟨g, 2, none⟩ = some a2 ∧ w.cell? ⟨g, 3, none⟩ = some a3 ∧ w.cell? ⟨g, 4, none⟩ = some a4 :=
  ⟨by rw [cell_of_row _ _ _ _ _ _ h]; rfl, by rw [cell_of_row _ _ _ _ _ _ h]; rfl, by rw [cell_of_row _ _ _ _ _ _ h]; rfl, by rw [cell_of_row _ _ _ _ _ _ h]; rfl, by rw [cell_of_row _ _ _ _ _ _ h]; rfl⟩
def rankF (a b : Bool) : Nat := (if a then 0 else 1) + (if b then 0 else 2)
def rankN (i : Itn) : Nat := rankF (decide (i.1 = starS)) (decide (i.2.1 = starS))
theorem i_rank {w : World} (i : Itn) :
    Calls Try.prog 39 #[.agg (itnC i)] w fun e w' => e = .returned (.int .i64 (rankN i)) ∧ Chg nob w w' := by
  have hb := heap_alloc_new w (.cells (itnC i) 77)
  have hc : Chg nob w (w.alloc (.cells (itnC i) 77)) := (Chg.refl nob w).alloc _
  obtain ⟨s, d, al, mk, ix⟩ := i
  unfold itnC at *
  dsimp only at *
  obtain ⟨w1, hw1⟩ : ∃ w1, w.alloc (.cells #[.string s, .string d, .bool al, .int .u64 mk, .int .u64 ix] 77) = w1 := ⟨_, rfl⟩
  rw [hw1] at hb hc
  obtain ⟨q0, q1, -⟩ := row5i hb
  have HC := Lib.hid hc
  have h1 := star_eq s
  have h2 := star_eq d
  have HR : Hid (rankN (s, d, al, mk, ix) = rankF (decide (s = starS)) (decide (d = starS))) := rfl
  obtain ⟨a, ha⟩ : ∃ a, decide (s = starS) = a := ⟨_, rfl⟩
  obtain ⟨b, hb'⟩ : ∃ b, decide (d = starS) = b := ⟨_, rfl⟩
  rw [ha] at h1 HR
  rw [hb'] at h2 HR
  clear hb hc ha hb'
  cases a <;> cases b
  all_goals
    go_enter Try.func39, Try.ntmps39
    go_wp2
    go_ret
    rw [HR.out]
    exact ⟨rfl, HC.out⟩
theorem r_rank {w : World} (i : Itn) :
    Calls Try.prog 27 #[.agg (itnC i)] w fun e w' => e = .returned (.int .i64 (rankN i)) ∧ Chg nob w w' := by
  have hb := heap_alloc_new w (.cells (itnC i) 77)
  have hc : Chg nob w (w.alloc (.cells (itnC i) 77)) := (Chg.refl nob w).alloc _
  obtain ⟨s, d, al, mk, ix⟩ := i
  unfold itnC at *
  dsimp only at *
  obtain ⟨w1, hw1⟩ : ∃ w1, w.alloc (.cells #[.string s, .string d, .bool al, .int .u64 mk, .int .u64 ix] 77) = w1 := ⟨_, rfl⟩
  rw [hw1] at hb hc
  obtain ⟨q0, q1, -⟩ := row5i hb
  have HC := Lib.hid hc
  have h1 := star_eq s
  have h2 := star_eq d
  have HR : Hid (rankN (s, d, al, mk, ix) = rankF (decide (s = starS)) (decide (d = starS))) := rfl
  obtain ⟨a, ha⟩ : ∃ a, decide (s = starS) = a := ⟨_, rfl⟩
  obtain ⟨b, hb'⟩ : ∃ b, decide (d = starS) = b := ⟨_, rfl⟩
  rw [ha] at h1 HR
  rw [hb'] at h2 HR
  clear hb hc ha hb'
  cases a <;> cases b
  all_goals
    go_enter Try.func27, Try.ntmps27
    go_wp2
    go_ret
    rw [HR.out]
    exact ⟨rfl, HC.out⟩
#print axioms r_rank
end Go.Proofs.Ytcibdcahcpcmaaa

/- What a list of intentions says: the plain law, and what the reference's Choose answers. -/
namespace Go.Proofs.Ytcibdcahcpcmaaa
open Go.RowKit
set_option linter.unusedVariables false
set_option linter.unusedSimpArgs false
set_option maxRecDepth 100000
def speaksB (src dst : ByteArray) (i : Itn) : Bool := matchB i.1 src && matchB i.2.1 dst
/-- Place k bears the best of those that speak. -/
structure IsBest (l : List Itn) (src dst : ByteArray) (k : Nat) (i : Itn) : Prop where
  at_ : l[k]? = some i
  sp : speaksB src dst i = true
  le : ∀ (j : Nat) (x : Itn), l[j]? = some x → speaksB src dst x = true → rankN x ≤ rankN i
  lt : ∀ (j : Nat) (x : Itn), j < k → l[j]? = some x → speaksB src dst x = true → rankN x < rankN i
theorem IsBest.one {l : List Itn} {src dst : ByteArray} {k k' : Nat} {i i' : Itn} (h : IsBest l src dst k i) (h' : IsBest l src dst k' i') : k = k' := by
  have h1 := h.le _ _ h'.at_ h'.sp
  have h2 := h'.le _ _ h.at_ h.sp
  rcases Nat.lt_trichotomy k k' with h3 | h3 | h3
  · have := h'.lt _ _ h3 h.at_ h.sp; omega
  · exact h3
  · have := h.lt _ _ h3 h'.at_ h'.sp; omega
def noneSpeak (l : List Itn) (src dst : ByteArray) : Prop := ∀ (j : Nat) (x : Itn), l[j]? = some x → speaksB src dst x = false
/-- What Choose answers. -/
def ChPost (l : List Itn) (src dst : ByteArray) (df : Bool) (al : Bool) (at_ : Int) : Prop :=
  (∃ (k : Nat) (i : Itn), IsBest l src dst k i ∧ al = i.2.2.1 ∧ at_ = k) ∨ (noneSpeak l src dst ∧ al = df ∧ at_ = -1)
theorem ChPost.det {l : List Itn} {src dst : ByteArray} {df a a' : Bool} {t t' : Int} (h : ChPost l src dst df a t) (h' : ChPost l src dst df a' t') : a = a' ∧ t = t' := by
  rcases h with ⟨k, i, hb, rfl, rfl⟩ | ⟨hn, rfl, rfl⟩
  · rcases h' with ⟨k', i', hb', rfl, rfl⟩ | ⟨hn', rfl, rfl⟩
    · have hk := hb.one hb'
      subst hk
      have := hb.at_.symm.trans hb'.at_
      cases this
      exact ⟨rfl, rfl⟩
    · have := hn' _ _ hb.at_
      rw [hb.sp] at this
      cases this
  · rcases h' with ⟨k', i', hb', rfl, rfl⟩ | ⟨hn', rfl, rfl⟩
    · have := hn _ _ hb'.at_
      rw [hb'.sp] at this
      cases this
    · exact ⟨rfl, rfl⟩
theorem rank_le (i : Itn) : rankN i ≤ 3 := by
  unfold rankN rankF
  split <;> split <;> omega
/-- An intention of a list, cell by cell. -/
theorem itn_at {w : World} {ok : Nat → Prop} {A : Option Addr} {l : List Itn} (h : itnK.C w ok A l) {j : Nat} {x : Itn} (hx : l[j]? = some x) :
    ∃ b o, A = some ⟨b, o, none⟩ ∧ ok b ∧ w.cell? ⟨b, o + j * 5, none⟩ = some (.string x.1) ∧ w.cell? ⟨b, o + j * 5 + 1, none⟩ = some (.string x.2.1) ∧ w.cell? ⟨b, o + j * 5 + 2, none⟩ = some (.bool x.2.2.1) ∧ w.cell? ⟨b, o + j * 5 + 3, none⟩ = some (.int .u64 x.2.2.2.1) ∧ w.cell? ⟨b, o + j * 5 + 4, none⟩ = some (.int .u64 x.2.2.2.2) := by
  obtain ⟨b, o, c, e, hb, hk, hc⟩ := Kd.C_at' h hx
  have hk' := itn_cells hk
  subst hk'
  exact ⟨b, o, e, hb, hc 0 _ rfl, hc 1 _ rfl, hc 2 _ rfl, hc 3 _ rfl, hc 4 _ rfl⟩
def ChTold (l : List Itn) (src dst : ByteArray) (df : Bool) (w : World) (e : Ending) (w' : World) : Prop := ∃ al at_, e = .returned (.tuple #[.bool al, .int .i64 at_]) ∧ ChPost l src dst df al at_ ∧ Chg nob w w'
set_option maxHeartbeats 4000000 in
theorem r_choose {w : World} {ok : Nat → Prop} {T : Option Addr} {n c : Nat} {l : List Itn} (hT : itnK.C w ok T l) (hn : l.length = n) (src dst : ByteArray) (df : Bool) (hs : src.size ≤ 9223372036854775807) (hd : dst.size ≤ 9223372036854775807) :
    Calls Try.prog 13 #[.slice T n c, .string src, .string dst, .bool df] w (ChTold l src dst df w) := by
  have HT := Lib.hid hT
  have HN := Lib.hid hn
  have hsm := hT.small
  rw [hn] at hsm
  clear hT hn
  go_enter Try.func13, Try.ntmps13
  go_wp2
  go_loopw [10] (fun v wr => ∃ r : Int, -1 ≤ r ∧ r ≤ 3 ∧ v = .int .i64 r ∧ Hid (∀ (j : Nat) (x : Itn), l[j]? = some x → speaksB src dst x = true → (rankN x : Int) ≤ r) ∧ Hid (Chg nob w wr)) (fun v _ => (intOf v + 1).toNat)
  case atStart => exact ⟨3, by omega, by omega, rfl, fun j x _ _ => by have := rank_le x; omega, Chg.refl _ _⟩
  case round =>
    obtain ⟨r, hr1, hr3, rfl, HLE, HC⟩ := hrel
    by_cases hr : 0 ≤ r
    · obtain ⟨w0, hw0⟩ : ∃ w0, w0 = wr := ⟨_, rfl⟩
      subst hw0
      go_wp2
      go_loopw [11] (fun v wx => ∃ j : Nat, j ≤ n ∧ v = .int .i64 j ∧ Hid (∀ (i : Nat) (x : Itn), i < j → l[i]? = some x → speaksB src dst x = true → (rankN x : Int) < r) ∧ Hid (Chg nob w wx)) (fun v _ => n - (intOf v).toNat)
      case atStart => exact ⟨0, Nat.zero_le _, rfl, fun i x hi => by omega, HC⟩
      case round =>
        obtain ⟨j, hj, rfl, HLT, HCX⟩ := hrel
        by_cases hlt : j < n
        · have b1 : (j : Int) < (n : Int) := by omega
          have b2 : (0 : Int) ≤ (j : Int) := by omega
          obtain ⟨x, hx⟩ : ∃ x, l[j]? = some x := ⟨_, List.getElem?_eq_getElem (by rw [HN.out]; exact hlt)⟩
          obtain ⟨b, o, rfl, _, e0, e1, e2, e3, e4⟩ := itn_at (Kd.C_new HT.out HCX.out) hx
          have HX := Lib.hid hx
          have HEE := Lib.hid (And.intro e0 (And.intro e1 e2))
          have hnext : (speaksB src dst x = true → (rankN x : Int) < r) → ∀ (i : Nat) (y : Itn), i < j + 1 → l[i]? = some y → speaksB src dst y = true → (rankN y : Int) < r := by
            intro h i y hi hy hsp
            by_cases hij : i = j
            · subst hij
              rw [HX.out] at hy
              cases hy
              exact h hsp
            · exact HLT.out i y (by omega) hy hsp
          have HNX := Lib.hid hnext
          clear hx hnext
          go_wp2_with fail
          refine (r_rank x).mono ?_
          rintro e w3 ⟨rfl, hc3⟩
          have HC3 := Lib.hid (HCX.out.thenNew hc3)
          obtain ⟨k0, k1, k2⟩ := HEE.out
          have k0 := hc3.cell k0 (not_nob _)
          have k1 := hc3.cell k1 (not_nob _)
          have k2 := hc3.cell k2 (not_nob _)
          clear hc3 e0 e1 e2 e3 e4
          by_cases hrk : (rankN x : Int) = r
          · have c1 : ((rankN x : Int) == r) = true := by simpa using hrk
            have HRK := Lib.hid hrk
            clear hrk
            go_wp2_with fail
            refine (r_match x.1 src hs).mono ?_
            rintro e w4 ⟨rfl, hww⟩
            subst hww
            obtain ⟨m1, hm1⟩ : ∃ m, matchB x.1 src = m := ⟨_, rfl⟩
            rw [hm1]
            have HM1 := Lib.hid hm1
            clear hm1
            cases m1 with
            | false =>
              go_wp2
              exact ⟨⟨j + 1, by omega, by go_num, HNX.out (fun h => by unfold speaksB at h; rw [HM1.out] at h; cases h), HC3⟩, by simp [intOf]; omega⟩
            | true =>
              go_wp2_with fail
              refine (r_match x.2.1 dst hd).mono ?_
              rintro e w4 ⟨rfl, hww⟩
              subst hww
              obtain ⟨m2, hm2⟩ : ∃ m, matchB x.2.1 dst = m := ⟨_, rfl⟩
              rw [hm2]
              have HM2 := Lib.hid hm2
              clear hm2
              cases m2 with
              | false =>
                go_wp2
                exact ⟨⟨j + 1, by omega, by go_num, HNX.out (fun h => by unfold speaksB at h; rw [HM2.out, Bool.and_false] at h; cases h), HC3⟩, by simp [intOf]; omega⟩
              | true =>
                go_wp2
                go_ret2
                refine ⟨_, _, rfl, .inl ⟨j, x, ⟨HX.out, by unfold speaksB; rw [HM1.out, HM2.out]; rfl, fun i y hy hsp => ?_, fun i y hi hy hsp => ?_⟩, rfl, rfl⟩, HC3.out⟩
                · have := HLE.out i y hy hsp; have := HRK.out; omega
                · have := HLT.out i y hi hy hsp; have := HRK.out; omega
          · have c1 : ((rankN x : Int) == r) = false := by simpa using hrk
            have HRK : Hid (speaksB src dst x = true → (rankN x : Int) < r) := fun h => by have := HLE.out j x HX.out h; omega
            clear hrk
            go_wp2
            exact ⟨⟨j + 1, by omega, by go_num, HNX.out HRK.out, HC3⟩, by simp [intOf]; omega⟩
        · obtain rfl : j = n := by omega
          have b1 : ¬ (j : Int) < (j : Int) := by omega
          have HLN : Hid (∀ (i : Nat) (y : Itn), l[i]? = some y → speaksB src dst y = true → (rankN y : Int) ≤ r - 1) := fun i y hy hsp => by
            have := HLT.out i y (by have := (List.getElem?_eq_some_iff.1 hy).1; rw [HN.out] at this; exact this) hy hsp
            omega
          go_wp2
          exact ⟨⟨r - 1, by omega, by omega, by go_num, HLN, HCX⟩, by simp [intOf]; omega⟩
    · have hrm : r = -1 := by omega
      subst hrm
      go_wp2
      go_ret2
      refine ⟨df, -1, rfl, .inr ⟨fun j x hx => ?_, rfl, rfl⟩, HC.out⟩
      cases hsp : speaksB src dst x with
      | false => rfl
      | true => have := HLE.out j x hx hsp; omega
#print axioms r_choose
end Go.Proofs.Ytcibdcahcpcmaaa
