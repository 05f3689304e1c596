/- sodalityref04.Reader: what a call of Texts and Nums does. -/
import Derived.Test.YticbffoclnjciaaRefReader
namespace Go.Proofs.Yticbffoclnjciaa
open Go.RowKit
set_option linter.unusedVariables false
set_option linter.unusedSimpArgs false
set_option maxHeartbeats 4000000 in
theorem rr_texts_pos {w : World} {ok : Nat → Prop} {g : Nat} {bs : List UInt8} {e : Nat} (h : IsRef w ok g bs e) (hok : ∀ b, ok b → b < w.heap.size) (most : Int) (hm0 : -9223372036854775808 ≤ most) (hm1 : most ≤ 9223372036854775807) (many : Nat) (hmany : many < 9223372036854775808) (hbs : bs.length ≤ 1000000000) :
    Calls Try.prog 44 #[.pointer (some ⟨g, 0, none⟩), .int .i64 many, .int .i64 most] w fun x w' =>
      ∃ A c, x = .returned (.slice A (rList (rT most) true bs e many).1.length c) ∧ (rList (rT most) true bs e many).1.length ≤ c ∧ Kd.string.C w' (fun b => w.heap.size ≤ b) A (rList (rT most) true bs e many).1 ∧
        IsRef w' ok g (rList (rT most) true bs e many).2.1 (rList (rT most) true bs e many).2.2 ∧ Chg (At (some ⟨g, 0, none⟩)) w w' := by
  have hg := h.lt
  have HI := Lib.hid h
  have HOK := Lib.hid hok
  have hmx : (max (many : Int) 0).toNat = many := by omega
  have hag : ∀ k, At (some ⟨g, 0, none⟩) k → k = g := fun k hk => by cases hk; rfl
  clear h hok
  go_enter Try.func44, Try.ntmps44
  go_wp2_with fail
  refine (rr_num HI.out many (by omega)).mono ?_
  rintro x w1 ⟨rfl, h1, hc1⟩
  have hNlt := rNum_lt true bs e many
  have hre := (rNum_rest true bs e many).len
  have HRL0 : rList (rT most) true bs e many = if (rItems (rT most) (rNum true bs e many).1 (rNum true bs e many).2.1 (rNum true bs e many).2.2).2.2 = 0 then rItems (rT most) (rNum true bs e many).1 (rNum true bs e many).2.1 (rNum true bs e many).2.2 else ([], (rItems (rT most) (rNum true bs e many).1 (rNum true bs e many).2.1 (rNum true bs e many).2.2).2) := by
    by_cases he : e = 0
    · subst he
      simp [rList, hmx]
    · have h5 : rNum true bs e many = (0, bs, e) := by rw [rNum, if_neg (fun h => he h.2)]
      rw [h5, rList, if_neg (fun h => he h.2)]
      exact (if_neg (c := (rItems (rT most) 0 bs e).2.2 = 0) he).symm
  obtain ⟨N, bs1, e1, hr⟩ : ∃ N bs1 e1, rNum true bs e many = (N, bs1, e1) := ⟨_, _, _, rfl⟩
  rw [hr] at h1 hNlt hre HRL0 ⊢
  simp only at hNlt hre h1 HRL0
  have HRL := Lib.hid HRL0
  have hlen := rItems_len (rT_short most) N bs1 e1
  have HLEN := Lib.hid hlen
  have HA1 := Lib.hid h1
  have HMX := Lib.hid hmx
  clear h1 hr hmx hlen HRL0
  go_wp2
  go_loopw [8, 9] (fun v i wr => ∃ (j : Nat) (acc : List ByteArray) (A : Option Addr) (c : Nat) (bs' : List UInt8) (e' : Nat), v = .slice A j c ∧ i = .int .u64 j ∧ j ≤ N ∧ Hid (acc.length = j ∧ rItems (rT most) N bs1 e1 = (acc ++ (rItems (rT most) (N - j) bs' e').1, (rItems (rT most) (N - j) bs' e').2)) ∧ Hid (IsRef wr ok g bs' e') ∧ Kd.string.R 9 wr w.heap.size (fun b => w.heap.size ≤ b) (.slice A j c) acc ∧ Chg (At (some ⟨g, 0, none⟩)) w wr) (fun _ i _ => N - (intOf i).toNat)
  case atStart => exact ⟨0, [], none, 0, bs1, e1, rfl, rfl, Nat.zero_le _, ⟨rfl, rfl⟩, HA1.out, Kd.R_nil _ _ _ _ _, hc1⟩
  case round =>
    obtain ⟨j, acc, A, c, bs', e', rfl, rfl, hj, HJ, HA, hR, hC⟩ := hrel
    have hjl : j ≤ 1000000001 := by
      have h5 := HLEN.out
      rw [HJ.out.2] at h5
      simp only [List.length_append] at h5
      have := HJ.out.1
      omega
    have s1 := hC.size
    obtain ⟨A2, c2, _, f2, _, _, _, _⟩ := HA.out.read
    have hstop : ¬ (j < N ∧ e' = 0) → Hid (rItems (rT most) N bs1 e1 = (acc, bs', e')) := by
      intro hno
      show _ = _
      rw [HJ.out.2]
      have h6 : rItems (rT most) (N - j) bs' e' = ([], bs', e') := by
        by_cases he : e' = 0
        · rw [show N - j = 0 from by omega]; rfl
        · exact rItems_stop he
      rw [h6]
      simp
    have HST := Lib.hid hstop
    clear hstop
    by_cases hlt : j < N
    · by_cases he : e' = 0
      · subst he
        rw [show (((0 : Nat) : Int)) = (0 : Int) from rfl] at f2
        have b1 : (j : Int) < (N : Int) := by omega
        have HN : Hid ((acc ++ [(rT most bs' 0).1]).length = j + 1 ∧ rItems (rT most) N bs1 e1 = ((acc ++ [(rT most bs' 0).1]) ++ (rItems (rT most) (N - (j + 1)) (rT most bs' 0).2.1 (rT most bs' 0).2.2).1, (rItems (rT most) (N - (j + 1)) (rT most bs' 0).2.1 (rT most bs' 0).2.2).2)) := by
          refine ⟨by simp [HJ.out.1], ?_⟩
          rw [HJ.out.2, show N - j = (N - (j + 1)) + 1 from by omega, rItems, if_pos rfl]
          simp
        go_wp2_with fail
        refine (rr_text HA.out most hm0 hm1).mono ?_
        rintro x w3 ⟨rfl, h3, hc3⟩
        have HA3 : Hid (IsRef w3 ok g (rT most bs' 0).2.1 (rT most bs' 0).2.2) := h3
        have hR3 := Kd.R_chg hR hc3 (fun k hk e => by have := hag _ e; omega)
        have hC3 := hC.trans hc3 (fun k hk => .inl hk)
        have s3 := hC3.size
        rw [show (rText true bs' 0 most).1 = (rT most bs' 0).1 from rfl]
        obtain ⟨y, hy⟩ : ∃ y, (rT most bs' 0).1 = y := ⟨_, rfl⟩
        obtain ⟨bs2, hbs2⟩ : ∃ y, (rT most bs' 0).2.1 = y := ⟨_, rfl⟩
        obtain ⟨e2, he2⟩ : ∃ y, (rT most bs' 0).2.2 = y := ⟨_, rfl⟩
        rw [hy, hbs2, he2] at HN
        rw [hbs2, he2] at HA3
        rw [hy]
        clear hy hbs2 he2 h3 hc3 hR hC f2
        go_wp2_with (at_builtin; refine wp_app1T rfl _ _ rfl w.heap.size _ (.slice A j c) acc y rfl rfl hR3 s3 (j + 1) ?_ ?_ ?_)
        · rw [HJ.out.1]
        · omega
        intro A5 c5 w5 hR5 hC5 _
        have HA5 : Hid (IsRef w5 ok g bs2 e2) := HA3.out.chg hC5 (fun e => by have := (Kd.R_own hR3 g e.symm).1; omega) (fun k hk e => by have := (Kd.R_own hR3 k e.symm).1; have := HOK.out k hk; omega)
        have hC6 := hC3.trans hC5 (fun k hk => .inr (Kd.R_own hR3 k hk.symm).1)
        have hR6 := Kd.R_ge Kd.scalar_flat hR5
        clear hR5 hC5 hR3 hC3
        go_wp2
        go_roundw
        case rel => exact ⟨j + 1, _, A5, c5, bs2, e2, rfl, by go_num, by omega, HN, HA5, hR6, hC6⟩
        case measure => simp [intOf]; omega
      · have he' : ((e' : Int) == 0) = false := by simp; omega
        have HE := HST.out (fun h => he h.2)
        have b1 : (j : Int) < (N : Int) := by omega
        go_wp2
        go_ret
        rw [HRL.out, HE.out, if_neg he]
        exact ⟨none, 0, rfl, Nat.le_refl _, Kd.C_nil _ _ _ _, HA.out, hC⟩
    · have HE := HST.out (fun h => hlt h.1)
      have b1 : ¬ (j : Int) < (N : Int) := by omega
      by_cases he : e' = 0
      · subst he
        rw [show (((0 : Nat) : Int)) = (0 : Int) from rfl] at f2
        have HEN : Hid (∃ A' c', Ending.returned (Value.slice A j c) = .returned (.slice A' (rList (rT most) true bs e many).1.length c') ∧ (rList (rT most) true bs e many).1.length ≤ c' ∧ Kd.string.C wr (fun b => w.heap.size ≤ b) A' (rList (rT most) true bs e many).1 ∧
            IsRef wr ok g (rList (rT most) true bs e many).2.1 (rList (rT most) true bs e many).2.2 ∧ Chg (At (some ⟨g, 0, none⟩)) w wr) := by
          rw [HRL.out, HE.out, if_pos rfl]
          obtain ⟨k1, k2, k3⟩ := Kd.R_read hR
          exact ⟨A, c, by rw [k2], by rw [k2]; exact k3, k1, HA.out, hC⟩
        clear hR
        go_wp2
        go_ret
        exact HEN.out
      · have he' : ((e' : Int) == 0) = false := by simp; omega
        go_wp2
        go_ret
        rw [HRL.out, HE.out, if_neg he]
        exact ⟨none, 0, rfl, Nat.le_refl _, Kd.C_nil _ _ _ _, HA.out, hC⟩
set_option maxHeartbeats 4000000 in
theorem rr_texts_neg {w : World} {ok : Nat → Prop} {g : Nat} {bs : List UInt8} {e : Nat} (h : IsRef w ok g bs e) (hok : ∀ b, ok b → b < w.heap.size) (most : Int) (hm0 : -9223372036854775808 ≤ most) (hm1 : most ≤ 9223372036854775807) (many : Int) (hm2 : -9223372036854775808 ≤ many) (hm3 : many < 0) (hbs : bs.length ≤ 1000000000) :
    Calls Try.prog 44 #[.pointer (some ⟨g, 0, none⟩), .int .i64 many, .int .i64 most] w fun x w' =>
      ∃ A c, x = .returned (.slice A (rList (rT most) true bs e many).1.length c) ∧ (rList (rT most) true bs e many).1.length ≤ c ∧ Kd.string.C w' (fun b => w.heap.size ≤ b) A (rList (rT most) true bs e many).1 ∧
        IsRef w' ok g (rList (rT most) true bs e many).2.1 (rList (rT most) true bs e many).2.2 ∧ Chg (At (some ⟨g, 0, none⟩)) w w' := by
  have hg := h.lt
  have HI := Lib.hid h
  have HOK := Lib.hid hok
  have hmx : (max (many : Int) 0).toNat = 0 := by omega
  have hag : ∀ k, At (some ⟨g, 0, none⟩) k → k = g := fun k hk => by cases hk; rfl
  clear h hok
  go_enter Try.func44, Try.ntmps44
  go_wp2_with fail
  refine (rr_num HI.out 0 (by omega)).mono ?_
  rintro x w1 ⟨rfl, h1, hc1⟩
  have hNlt := rNum_lt true bs e 0
  have hre := (rNum_rest true bs e 0).len
  have HRL0 : rList (rT most) true bs e many = if (rItems (rT most) (rNum true bs e 0).1 (rNum true bs e 0).2.1 (rNum true bs e 0).2.2).2.2 = 0 then rItems (rT most) (rNum true bs e 0).1 (rNum true bs e 0).2.1 (rNum true bs e 0).2.2 else ([], (rItems (rT most) (rNum true bs e 0).1 (rNum true bs e 0).2.1 (rNum true bs e 0).2.2).2) := by
    by_cases he : e = 0
    · subst he
      simp [rList, hmx]
    · have h5 : rNum true bs e 0 = (0, bs, e) := by rw [rNum, if_neg (fun h => he h.2)]
      rw [h5, rList, if_neg (fun h => he h.2)]
      exact (if_neg (c := (rItems (rT most) 0 bs e).2.2 = 0) he).symm
  obtain ⟨N, bs1, e1, hr⟩ : ∃ N bs1 e1, rNum true bs e 0 = (N, bs1, e1) := ⟨_, _, _, rfl⟩
  rw [hr] at h1 hNlt hre HRL0 ⊢
  simp only at hNlt hre h1 HRL0
  have HRL := Lib.hid HRL0
  have hlen := rItems_len (rT_short most) N bs1 e1
  have HLEN := Lib.hid hlen
  have HA1 := Lib.hid h1
  have HMX := Lib.hid hmx
  clear h1 hr hmx hlen HRL0
  go_wp2
  go_loopw [8, 9] (fun v i wr => ∃ (j : Nat) (acc : List ByteArray) (A : Option Addr) (c : Nat) (bs' : List UInt8) (e' : Nat), v = .slice A j c ∧ i = .int .u64 j ∧ j ≤ N ∧ Hid (acc.length = j ∧ rItems (rT most) N bs1 e1 = (acc ++ (rItems (rT most) (N - j) bs' e').1, (rItems (rT most) (N - j) bs' e').2)) ∧ Hid (IsRef wr ok g bs' e') ∧ Kd.string.R 9 wr w.heap.size (fun b => w.heap.size ≤ b) (.slice A j c) acc ∧ Chg (At (some ⟨g, 0, none⟩)) w wr) (fun _ i _ => N - (intOf i).toNat)
  case atStart => exact ⟨0, [], none, 0, bs1, e1, rfl, rfl, Nat.zero_le _, ⟨rfl, rfl⟩, HA1.out, Kd.R_nil _ _ _ _ _, hc1⟩
  case round =>
    obtain ⟨j, acc, A, c, bs', e', rfl, rfl, hj, HJ, HA, hR, hC⟩ := hrel
    have hjl : j ≤ 1000000001 := by
      have h5 := HLEN.out
      rw [HJ.out.2] at h5
      simp only [List.length_append] at h5
      have := HJ.out.1
      omega
    have s1 := hC.size
    obtain ⟨A2, c2, _, f2, _, _, _, _⟩ := HA.out.read
    have hstop : ¬ (j < N ∧ e' = 0) → Hid (rItems (rT most) N bs1 e1 = (acc, bs', e')) := by
      intro hno
      show _ = _
      rw [HJ.out.2]
      have h6 : rItems (rT most) (N - j) bs' e' = ([], bs', e') := by
        by_cases he : e' = 0
        · rw [show N - j = 0 from by omega]; rfl
        · exact rItems_stop he
      rw [h6]
      simp
    have HST := Lib.hid hstop
    clear hstop
    by_cases hlt : j < N
    · by_cases he : e' = 0
      · subst he
        rw [show (((0 : Nat) : Int)) = (0 : Int) from rfl] at f2
        have b1 : (j : Int) < (N : Int) := by omega
        have HN : Hid ((acc ++ [(rT most bs' 0).1]).length = j + 1 ∧ rItems (rT most) N bs1 e1 = ((acc ++ [(rT most bs' 0).1]) ++ (rItems (rT most) (N - (j + 1)) (rT most bs' 0).2.1 (rT most bs' 0).2.2).1, (rItems (rT most) (N - (j + 1)) (rT most bs' 0).2.1 (rT most bs' 0).2.2).2)) := by
          refine ⟨by simp [HJ.out.1], ?_⟩
          rw [HJ.out.2, show N - j = (N - (j + 1)) + 1 from by omega, rItems, if_pos rfl]
          simp
        go_wp2_with fail
        refine (rr_text HA.out most hm0 hm1).mono ?_
        rintro x w3 ⟨rfl, h3, hc3⟩
        have HA3 : Hid (IsRef w3 ok g (rT most bs' 0).2.1 (rT most bs' 0).2.2) := h3
        have hR3 := Kd.R_chg hR hc3 (fun k hk e => by have := hag _ e; omega)
        have hC3 := hC.trans hc3 (fun k hk => .inl hk)
        have s3 := hC3.size
        rw [show (rText true bs' 0 most).1 = (rT most bs' 0).1 from rfl]
        obtain ⟨y, hy⟩ : ∃ y, (rT most bs' 0).1 = y := ⟨_, rfl⟩
        obtain ⟨bs2, hbs2⟩ : ∃ y, (rT most bs' 0).2.1 = y := ⟨_, rfl⟩
        obtain ⟨e2, he2⟩ : ∃ y, (rT most bs' 0).2.2 = y := ⟨_, rfl⟩
        rw [hy, hbs2, he2] at HN
        rw [hbs2, he2] at HA3
        rw [hy]
        clear hy hbs2 he2 h3 hc3 hR hC f2
        go_wp2_with (at_builtin; refine wp_app1T rfl _ _ rfl w.heap.size _ (.slice A j c) acc y rfl rfl hR3 s3 (j + 1) ?_ ?_ ?_)
        · rw [HJ.out.1]
        · omega
        intro A5 c5 w5 hR5 hC5 _
        have HA5 : Hid (IsRef w5 ok g bs2 e2) := HA3.out.chg hC5 (fun e => by have := (Kd.R_own hR3 g e.symm).1; omega) (fun k hk e => by have := (Kd.R_own hR3 k e.symm).1; have := HOK.out k hk; omega)
        have hC6 := hC3.trans hC5 (fun k hk => .inr (Kd.R_own hR3 k hk.symm).1)
        have hR6 := Kd.R_ge Kd.scalar_flat hR5
        clear hR5 hC5 hR3 hC3
        go_wp2
        go_roundw
        case rel => exact ⟨j + 1, _, A5, c5, bs2, e2, rfl, by go_num, by omega, HN, HA5, hR6, hC6⟩
        case measure => simp [intOf]; omega
      · have he' : ((e' : Int) == 0) = false := by simp; omega
        have HE := HST.out (fun h => he h.2)
        have b1 : (j : Int) < (N : Int) := by omega
        go_wp2
        go_ret
        rw [HRL.out, HE.out, if_neg he]
        exact ⟨none, 0, rfl, Nat.le_refl _, Kd.C_nil _ _ _ _, HA.out, hC⟩
    · have HE := HST.out (fun h => hlt h.1)
      have b1 : ¬ (j : Int) < (N : Int) := by omega
      by_cases he : e' = 0
      · subst he
        rw [show (((0 : Nat) : Int)) = (0 : Int) from rfl] at f2
        have HEN : Hid (∃ A' c', Ending.returned (Value.slice A j c) = .returned (.slice A' (rList (rT most) true bs e many).1.length c') ∧ (rList (rT most) true bs e many).1.length ≤ c' ∧ Kd.string.C wr (fun b => w.heap.size ≤ b) A' (rList (rT most) true bs e many).1 ∧
            IsRef wr ok g (rList (rT most) true bs e many).2.1 (rList (rT most) true bs e many).2.2 ∧ Chg (At (some ⟨g, 0, none⟩)) w wr) := by
          rw [HRL.out, HE.out, if_pos rfl]
          obtain ⟨k1, k2, k3⟩ := Kd.R_read hR
          exact ⟨A, c, by rw [k2], by rw [k2]; exact k3, k1, HA.out, hC⟩
        clear hR
        go_wp2
        go_ret
        exact HEN.out
      · have he' : ((e' : Int) == 0) = false := by simp; omega
        go_wp2
        go_ret
        rw [HRL.out, HE.out, if_neg he]
        exact ⟨none, 0, rfl, Nat.le_refl _, Kd.C_nil _ _ _ _, HA.out, hC⟩
theorem rr_texts {w : World} {ok : Nat → Prop} {g : Nat} {bs : List UInt8} {e : Nat} (h : IsRef w ok g bs e) (hok : ∀ b, ok b → b < w.heap.size) (many : Int) (hn0 : -9223372036854775808 ≤ many) (hn1 : many ≤ 9223372036854775807) (most : Int) (hm0 : -9223372036854775808 ≤ most) (hm1 : most ≤ 9223372036854775807) (hbs : bs.length ≤ 1000000000) :
    Calls Try.prog 44 #[.pointer (some ⟨g, 0, none⟩), .int .i64 many, .int .i64 most] w fun x w' =>
      ∃ A c, x = .returned (.slice A (rList (rT most) true bs e many).1.length c) ∧ (rList (rT most) true bs e many).1.length ≤ c ∧ Kd.string.C w' (fun b => w.heap.size ≤ b) A (rList (rT most) true bs e many).1 ∧
        IsRef w' ok g (rList (rT most) true bs e many).2.1 (rList (rT most) true bs e many).2.2 ∧ Chg (At (some ⟨g, 0, none⟩)) w w' := by
  by_cases hp : 0 ≤ many
  · obtain ⟨n, rfl⟩ := Int.eq_ofNat_of_zero_le hp
    exact rr_texts_pos h hok most hm0 hm1 n (by omega) hbs
  · exact rr_texts_neg h hok most hm0 hm1 many hn0 (by omega) hbs
set_option maxHeartbeats 4000000 in
theorem rr_nums_pos {w : World} {ok : Nat → Prop} {g : Nat} {bs : List UInt8} {e : Nat} (h : IsRef w ok g bs e) (hok : ∀ b, ok b → b < w.heap.size) (most : Nat) (hm : most < 18446744073709551616) (many : Nat) (hmany : many < 9223372036854775808) (hbs : bs.length ≤ 1000000000) :
    Calls Try.prog 45 #[.pointer (some ⟨g, 0, none⟩), .int .i64 many, .int .u64 most] w fun x w' =>
      ∃ A c, x = .returned (.slice A (rList (rU most) true bs e many).1.length c) ∧ (rList (rU most) true bs e many).1.length ≤ c ∧ (Kd.int .u64).C w' (fun b => w.heap.size ≤ b) A (rList (rU most) true bs e many).1 ∧
        IsRef w' ok g (rList (rU most) true bs e many).2.1 (rList (rU most) true bs e many).2.2 ∧ Chg (At (some ⟨g, 0, none⟩)) w w' := by
  have hg := h.lt
  have HI := Lib.hid h
  have HOK := Lib.hid hok
  have hmx : (max (many : Int) 0).toNat = many := by omega
  have hag : ∀ k, At (some ⟨g, 0, none⟩) k → k = g := fun k hk => by cases hk; rfl
  clear h hok
  go_enter Try.func45, Try.ntmps45
  go_wp2_with fail
  refine (rr_num HI.out many (by omega)).mono ?_
  rintro x w1 ⟨rfl, h1, hc1⟩
  have hNlt := rNum_lt true bs e many
  have hre := (rNum_rest true bs e many).len
  have HRL0 : rList (rU most) true bs e many = if (rItems (rU most) (rNum true bs e many).1 (rNum true bs e many).2.1 (rNum true bs e many).2.2).2.2 = 0 then rItems (rU most) (rNum true bs e many).1 (rNum true bs e many).2.1 (rNum true bs e many).2.2 else ([], (rItems (rU most) (rNum true bs e many).1 (rNum true bs e many).2.1 (rNum true bs e many).2.2).2) := by
    by_cases he : e = 0
    · subst he
      simp [rList, hmx]
    · have h5 : rNum true bs e many = (0, bs, e) := by rw [rNum, if_neg (fun h => he h.2)]
      rw [h5, rList, if_neg (fun h => he h.2)]
      exact (if_neg (c := (rItems (rU most) 0 bs e).2.2 = 0) he).symm
  obtain ⟨N, bs1, e1, hr⟩ : ∃ N bs1 e1, rNum true bs e many = (N, bs1, e1) := ⟨_, _, _, rfl⟩
  rw [hr] at h1 hNlt hre HRL0 ⊢
  simp only at hNlt hre h1 HRL0
  have HRL := Lib.hid HRL0
  have hlen := rItems_len (rU_short most) N bs1 e1
  have HLEN := Lib.hid hlen
  have HA1 := Lib.hid h1
  have HMX := Lib.hid hmx
  clear h1 hr hmx hlen HRL0
  go_wp2
  go_loopw [8, 9] (fun v i wr => ∃ (j : Nat) (acc : List Int) (A : Option Addr) (c : Nat) (bs' : List UInt8) (e' : Nat), v = .slice A j c ∧ i = .int .u64 j ∧ j ≤ N ∧ Hid (acc.length = j ∧ rItems (rU most) N bs1 e1 = (acc ++ (rItems (rU most) (N - j) bs' e').1, (rItems (rU most) (N - j) bs' e').2)) ∧ Hid (IsRef wr ok g bs' e') ∧ (Kd.int .u64).R 23 wr w.heap.size (fun b => w.heap.size ≤ b) (.slice A j c) acc ∧ Chg (At (some ⟨g, 0, none⟩)) w wr) (fun _ i _ => N - (intOf i).toNat)
  case atStart => exact ⟨0, [], none, 0, bs1, e1, rfl, rfl, Nat.zero_le _, ⟨rfl, rfl⟩, HA1.out, Kd.R_nil _ _ _ _ _, hc1⟩
  case round =>
    obtain ⟨j, acc, A, c, bs', e', rfl, rfl, hj, HJ, HA, hR, hC⟩ := hrel
    have hjl : j ≤ 1000000001 := by
      have h5 := HLEN.out
      rw [HJ.out.2] at h5
      simp only [List.length_append] at h5
      have := HJ.out.1
      omega
    have s1 := hC.size
    obtain ⟨A2, c2, _, f2, _, _, _, _⟩ := HA.out.read
    have hstop : ¬ (j < N ∧ e' = 0) → Hid (rItems (rU most) N bs1 e1 = (acc, bs', e')) := by
      intro hno
      show _ = _
      rw [HJ.out.2]
      have h6 : rItems (rU most) (N - j) bs' e' = ([], bs', e') := by
        by_cases he : e' = 0
        · rw [show N - j = 0 from by omega]; rfl
        · exact rItems_stop he
      rw [h6]
      simp
    have HST := Lib.hid hstop
    clear hstop
    by_cases hlt : j < N
    · by_cases he : e' = 0
      · subst he
        rw [show (((0 : Nat) : Int)) = (0 : Int) from rfl] at f2
        have b1 : (j : Int) < (N : Int) := by omega
        have HN : Hid ((acc ++ [(rU most bs' 0).1]).length = j + 1 ∧ rItems (rU most) N bs1 e1 = ((acc ++ [(rU most bs' 0).1]) ++ (rItems (rU most) (N - (j + 1)) (rU most bs' 0).2.1 (rU most bs' 0).2.2).1, (rItems (rU most) (N - (j + 1)) (rU most bs' 0).2.1 (rU most bs' 0).2.2).2)) := by
          refine ⟨by simp [HJ.out.1], ?_⟩
          rw [HJ.out.2, show N - j = (N - (j + 1)) + 1 from by omega, rItems, if_pos rfl]
          simp
        go_wp2_with fail
        refine (rr_num HA.out most hm).mono ?_
        rintro x w3 ⟨rfl, h3, hc3⟩
        have HA3 : Hid (IsRef w3 ok g (rU most bs' 0).2.1 (rU most bs' 0).2.2) := h3
        have hR3 := Kd.R_chg hR hc3 (fun k hk e => by have := hag _ e; omega)
        have hC3 := hC.trans hc3 (fun k hk => .inl hk)
        have s3 := hC3.size
        rw [show ((rNum true bs' 0 most).1 : Int) = (rU most bs' 0).1 from rfl]
        obtain ⟨y, hy⟩ : ∃ y, (rU most bs' 0).1 = y := ⟨_, rfl⟩
        obtain ⟨bs2, hbs2⟩ : ∃ y, (rU most bs' 0).2.1 = y := ⟨_, rfl⟩
        obtain ⟨e2, he2⟩ : ∃ y, (rU most bs' 0).2.2 = y := ⟨_, rfl⟩
        rw [hy, hbs2, he2] at HN
        rw [hbs2, he2] at HA3
        rw [hy]
        clear hy hbs2 he2 h3 hc3 hR hC f2
        go_wp2_with (at_builtin; refine wp_app1U rfl _ _ rfl w.heap.size _ (.slice A j c) acc y rfl rfl hR3 s3 (j + 1) ?_ ?_ ?_)
        · rw [HJ.out.1]
        · omega
        intro A5 c5 w5 hR5 hC5 _
        have HA5 : Hid (IsRef w5 ok g bs2 e2) := HA3.out.chg hC5 (fun e => by have := (Kd.R_own hR3 g e.symm).1; omega) (fun k hk e => by have := (Kd.R_own hR3 k e.symm).1; have := HOK.out k hk; omega)
        have hC6 := hC3.trans hC5 (fun k hk => .inr (Kd.R_own hR3 k hk.symm).1)
        have hR6 := Kd.R_ge Kd.scalar_flat hR5
        clear hR5 hC5 hR3 hC3
        go_wp2
        go_roundw
        case rel => exact ⟨j + 1, _, A5, c5, bs2, e2, rfl, by go_num, by omega, HN, HA5, hR6, hC6⟩
        case measure => simp [intOf]; omega
      · have he' : ((e' : Int) == 0) = false := by simp; omega
        have HE := HST.out (fun h => he h.2)
        have b1 : (j : Int) < (N : Int) := by omega
        go_wp2
        go_ret
        rw [HRL.out, HE.out, if_neg he]
        exact ⟨none, 0, rfl, Nat.le_refl _, Kd.C_nil _ _ _ _, HA.out, hC⟩
    · have HE := HST.out (fun h => hlt h.1)
      have b1 : ¬ (j : Int) < (N : Int) := by omega
      by_cases he : e' = 0
      · subst he
        rw [show (((0 : Nat) : Int)) = (0 : Int) from rfl] at f2
        have HEN : Hid (∃ A' c', Ending.returned (Value.slice A j c) = .returned (.slice A' (rList (rU most) true bs e many).1.length c') ∧ (rList (rU most) true bs e many).1.length ≤ c' ∧ (Kd.int .u64).C wr (fun b => w.heap.size ≤ b) A' (rList (rU most) true bs e many).1 ∧
            IsRef wr ok g (rList (rU most) true bs e many).2.1 (rList (rU most) true bs e many).2.2 ∧ Chg (At (some ⟨g, 0, none⟩)) w wr) := by
          rw [HRL.out, HE.out, if_pos rfl]
          obtain ⟨k1, k2, k3⟩ := Kd.R_read hR
          exact ⟨A, c, by rw [k2], by rw [k2]; exact k3, k1, HA.out, hC⟩
        clear hR
        go_wp2
        go_ret
        exact HEN.out
      · have he' : ((e' : Int) == 0) = false := by simp; omega
        go_wp2
        go_ret
        rw [HRL.out, HE.out, if_neg he]
        exact ⟨none, 0, rfl, Nat.le_refl _, Kd.C_nil _ _ _ _, HA.out, hC⟩
set_option maxHeartbeats 4000000 in
theorem rr_nums_neg {w : World} {ok : Nat → Prop} {g : Nat} {bs : List UInt8} {e : Nat} (h : IsRef w ok g bs e) (hok : ∀ b, ok b → b < w.heap.size) (most : Nat) (hm : most < 18446744073709551616) (many : Int) (hm2 : -9223372036854775808 ≤ many) (hm3 : many < 0) (hbs : bs.length ≤ 1000000000) :
    Calls Try.prog 45 #[.pointer (some ⟨g, 0, none⟩), .int .i64 many, .int .u64 most] w fun x w' =>
      ∃ A c, x = .returned (.slice A (rList (rU most) true bs e many).1.length c) ∧ (rList (rU most) true bs e many).1.length ≤ c ∧ (Kd.int .u64).C w' (fun b => w.heap.size ≤ b) A (rList (rU most) true bs e many).1 ∧
        IsRef w' ok g (rList (rU most) true bs e many).2.1 (rList (rU most) true bs e many).2.2 ∧ Chg (At (some ⟨g, 0, none⟩)) w w' := by
  have hg := h.lt
  have HI := Lib.hid h
  have HOK := Lib.hid hok
  have hmx : (max (many : Int) 0).toNat = 0 := by omega
  have hag : ∀ k, At (some ⟨g, 0, none⟩) k → k = g := fun k hk => by cases hk; rfl
  clear h hok
  go_enter Try.func45, Try.ntmps45
  go_wp2_with fail
  refine (rr_num HI.out 0 (by omega)).mono ?_
  rintro x w1 ⟨rfl, h1, hc1⟩
  have hNlt := rNum_lt true bs e 0
  have hre := (rNum_rest true bs e 0).len
  have HRL0 : rList (rU most) true bs e many = if (rItems (rU most) (rNum true bs e 0).1 (rNum true bs e 0).2.1 (rNum true bs e 0).2.2).2.2 = 0 then rItems (rU most) (rNum true bs e 0).1 (rNum true bs e 0).2.1 (rNum true bs e 0).2.2 else ([], (rItems (rU most) (rNum true bs e 0).1 (rNum true bs e 0).2.1 (rNum true bs e 0).2.2).2) := by
    by_cases he : e = 0
    · subst he
      simp [rList, hmx]
    · have h5 : rNum true bs e 0 = (0, bs, e) := by rw [rNum, if_neg (fun h => he h.2)]
      rw [h5, rList, if_neg (fun h => he h.2)]
      exact (if_neg (c := (rItems (rU most) 0 bs e).2.2 = 0) he).symm
  obtain ⟨N, bs1, e1, hr⟩ : ∃ N bs1 e1, rNum true bs e 0 = (N, bs1, e1) := ⟨_, _, _, rfl⟩
  rw [hr] at h1 hNlt hre HRL0 ⊢
  simp only at hNlt hre h1 HRL0
  have HRL := Lib.hid HRL0
  have hlen := rItems_len (rU_short most) N bs1 e1
  have HLEN := Lib.hid hlen
  have HA1 := Lib.hid h1
  have HMX := Lib.hid hmx
  clear h1 hr hmx hlen HRL0
  go_wp2
  go_loopw [8, 9] (fun v i wr => ∃ (j : Nat) (acc : List Int) (A : Option Addr) (c : Nat) (bs' : List UInt8) (e' : Nat), v = .slice A j c ∧ i = .int .u64 j ∧ j ≤ N ∧ Hid (acc.length = j ∧ rItems (rU most) N bs1 e1 = (acc ++ (rItems (rU most) (N - j) bs' e').1, (rItems (rU most) (N - j) bs' e').2)) ∧ Hid (IsRef wr ok g bs' e') ∧ (Kd.int .u64).R 23 wr w.heap.size (fun b => w.heap.size ≤ b) (.slice A j c) acc ∧ Chg (At (some ⟨g, 0, none⟩)) w wr) (fun _ i _ => N - (intOf i).toNat)
  case atStart => exact ⟨0, [], none, 0, bs1, e1, rfl, rfl, Nat.zero_le _, ⟨rfl, rfl⟩, HA1.out, Kd.R_nil _ _ _ _ _, hc1⟩
  case round =>
    obtain ⟨j, acc, A, c, bs', e', rfl, rfl, hj, HJ, HA, hR, hC⟩ := hrel
    have hjl : j ≤ 1000000001 := by
      have h5 := HLEN.out
      rw [HJ.out.2] at h5
      simp only [List.length_append] at h5
      have := HJ.out.1
      omega
    have s1 := hC.size
    obtain ⟨A2, c2, _, f2, _, _, _, _⟩ := HA.out.read
    have hstop : ¬ (j < N ∧ e' = 0) → Hid (rItems (rU most) N bs1 e1 = (acc, bs', e')) := by
      intro hno
      show _ = _
      rw [HJ.out.2]
      have h6 : rItems (rU most) (N - j) bs' e' = ([], bs', e') := by
        by_cases he : e' = 0
        · rw [show N - j = 0 from by omega]; rfl
        · exact rItems_stop he
      rw [h6]
      simp
    have HST := Lib.hid hstop
    clear hstop
    by_cases hlt : j < N
    · by_cases he : e' = 0
      · subst he
        rw [show (((0 : Nat) : Int)) = (0 : Int) from rfl] at f2
        have b1 : (j : Int) < (N : Int) := by omega
        have HN : Hid ((acc ++ [(rU most bs' 0).1]).length = j + 1 ∧ rItems (rU most) N bs1 e1 = ((acc ++ [(rU most bs' 0).1]) ++ (rItems (rU most) (N - (j + 1)) (rU most bs' 0).2.1 (rU most bs' 0).2.2).1, (rItems (rU most) (N - (j + 1)) (rU most bs' 0).2.1 (rU most bs' 0).2.2).2)) := by
          refine ⟨by simp [HJ.out.1], ?_⟩
          rw [HJ.out.2, show N - j = (N - (j + 1)) + 1 from by omega, rItems, if_pos rfl]
          simp
        go_wp2_with fail
        refine (rr_num HA.out most hm).mono ?_
        rintro x w3 ⟨rfl, h3, hc3⟩
        have HA3 : Hid (IsRef w3 ok g (rU most bs' 0).2.1 (rU most bs' 0).2.2) := h3
        have hR3 := Kd.R_chg hR hc3 (fun k hk e => by have := hag _ e; omega)
        have hC3 := hC.trans hc3 (fun k hk => .inl hk)
        have s3 := hC3.size
        rw [show ((rNum true bs' 0 most).1 : Int) = (rU most bs' 0).1 from rfl]
        obtain ⟨y, hy⟩ : ∃ y, (rU most bs' 0).1 = y := ⟨_, rfl⟩
        obtain ⟨bs2, hbs2⟩ : ∃ y, (rU most bs' 0).2.1 = y := ⟨_, rfl⟩
        obtain ⟨e2, he2⟩ : ∃ y, (rU most bs' 0).2.2 = y := ⟨_, rfl⟩
        rw [hy, hbs2, he2] at HN
        rw [hbs2, he2] at HA3
        rw [hy]
        clear hy hbs2 he2 h3 hc3 hR hC f2
        go_wp2_with (at_builtin; refine wp_app1U rfl _ _ rfl w.heap.size _ (.slice A j c) acc y rfl rfl hR3 s3 (j + 1) ?_ ?_ ?_)
        · rw [HJ.out.1]
        · omega
        intro A5 c5 w5 hR5 hC5 _
        have HA5 : Hid (IsRef w5 ok g bs2 e2) := HA3.out.chg hC5 (fun e => by have := (Kd.R_own hR3 g e.symm).1; omega) (fun k hk e => by have := (Kd.R_own hR3 k e.symm).1; have := HOK.out k hk; omega)
        have hC6 := hC3.trans hC5 (fun k hk => .inr (Kd.R_own hR3 k hk.symm).1)
        have hR6 := Kd.R_ge Kd.scalar_flat hR5
        clear hR5 hC5 hR3 hC3
        go_wp2
        go_roundw
        case rel => exact ⟨j + 1, _, A5, c5, bs2, e2, rfl, by go_num, by omega, HN, HA5, hR6, hC6⟩
        case measure => simp [intOf]; omega
      · have he' : ((e' : Int) == 0) = false := by simp; omega
        have HE := HST.out (fun h => he h.2)
        have b1 : (j : Int) < (N : Int) := by omega
        go_wp2
        go_ret
        rw [HRL.out, HE.out, if_neg he]
        exact ⟨none, 0, rfl, Nat.le_refl _, Kd.C_nil _ _ _ _, HA.out, hC⟩
    · have HE := HST.out (fun h => hlt h.1)
      have b1 : ¬ (j : Int) < (N : Int) := by omega
      by_cases he : e' = 0
      · subst he
        rw [show (((0 : Nat) : Int)) = (0 : Int) from rfl] at f2
        have HEN : Hid (∃ A' c', Ending.returned (Value.slice A j c) = .returned (.slice A' (rList (rU most) true bs e many).1.length c') ∧ (rList (rU most) true bs e many).1.length ≤ c' ∧ (Kd.int .u64).C wr (fun b => w.heap.size ≤ b) A' (rList (rU most) true bs e many).1 ∧
            IsRef wr ok g (rList (rU most) true bs e many).2.1 (rList (rU most) true bs e many).2.2 ∧ Chg (At (some ⟨g, 0, none⟩)) w wr) := by
          rw [HRL.out, HE.out, if_pos rfl]
          obtain ⟨k1, k2, k3⟩ := Kd.R_read hR
          exact ⟨A, c, by rw [k2], by rw [k2]; exact k3, k1, HA.out, hC⟩
        clear hR
        go_wp2
        go_ret
        exact HEN.out
      · have he' : ((e' : Int) == 0) = false := by simp; omega
        go_wp2
        go_ret
        rw [HRL.out, HE.out, if_neg he]
        exact ⟨none, 0, rfl, Nat.le_refl _, Kd.C_nil _ _ _ _, HA.out, hC⟩
theorem rr_nums {w : World} {ok : Nat → Prop} {g : Nat} {bs : List UInt8} {e : Nat} (h : IsRef w ok g bs e) (hok : ∀ b, ok b → b < w.heap.size) (many : Int) (hn0 : -9223372036854775808 ≤ many) (hn1 : many ≤ 9223372036854775807) (most : Nat) (hm : most < 18446744073709551616) (hbs : bs.length ≤ 1000000000) :
    Calls Try.prog 45 #[.pointer (some ⟨g, 0, none⟩), .int .i64 many, .int .u64 most] w fun x w' =>
      ∃ A c, x = .returned (.slice A (rList (rU most) true bs e many).1.length c) ∧ (rList (rU most) true bs e many).1.length ≤ c ∧ (Kd.int .u64).C w' (fun b => w.heap.size ≤ b) A (rList (rU most) true bs e many).1 ∧
        IsRef w' ok g (rList (rU most) true bs e many).2.1 (rList (rU most) true bs e many).2.2 ∧ Chg (At (some ⟨g, 0, none⟩)) w w' := by
  by_cases hp : 0 ≤ many
  · obtain ⟨n, rfl⟩ := Int.eq_ofNat_of_zero_le hp
    exact rr_nums_pos h hok most hm n (by omega) hbs
  · exact rr_nums_neg h hok most hm many hn0 (by omega) hbs
end Go.Proofs.Yticbffoclnjciaa
