/- field.Reader: what a call of Texts and Nums does. -/
import Derived.Test.YticbffoclnjciaaReaderFlag
namespace Go.Proofs.Yticbffoclnjciaa
open Go.RowKit
set_option linter.unusedVariables false
set_option linter.unusedSimpArgs false
def rT (most : Int) : List UInt8 → Nat → ByteArray × List UInt8 × Nat := fun bs e => rText true bs e most
def rU (most : Nat) : List UInt8 → Nat → Int × List UInt8 × Nat := fun bs e => (((rNum true bs e most).1 : Nat), (rNum true bs e most).2)
theorem IsRdAt.bound {w : World} {ok : Nat → Prop} {g : Nat} {mk : Bool} {bs : List UInt8} {e : Nat} (h : IsRdAt w ok g mk bs e) : IsRdAt w (fun b => ok b ∧ b < w.heap.size) g mk bs e := by
  obtain ⟨h0, A, c, h1, h2, h3⟩ := h
  exact ⟨⟨h0, heap_lt h1⟩, A, c, h1, h2, Kd.C_mono (Kd.C_bound h3) (fun b hb => ⟨⟨hb.1.1, hb.2⟩, hb.1.2⟩)⟩
theorem rT_short (most : Int) (bs : List UInt8) (h : (rT most bs 0).2.2 = 0) : (rT most bs 0).2.1.length < bs.length := rText_shorter ⟨rfl, rfl⟩ h
theorem rU_short (most : Nat) (bs : List UInt8) (h : (rU most bs 0).2.2 = 0) : (rU most bs 0).2.1.length < bs.length := rNum_shorter ⟨rfl, rfl⟩ h
theorem rT_rest (most : Int) (bs : List UInt8) (e : Nat) : Rest bs (rT most bs e).2.1 := rText_rest _ _ _ _
theorem rU_rest (most : Nat) (bs : List UInt8) (e : Nat) : Rest bs (rU most bs e).2.1 := rNum_rest _ _ _ _

theorem texts_info : (Try.prog.info? 9).map (fun i => (i.zero, i.size, i.bytes)) = some (some (.string ByteArray.empty), 1, 16) := by kernel_rfl
section
variable {ops : Array Oper} {Q : Exit → Act → World → Prop} {rest : List Oper} {a : Act} {w : World} {o : Oper}
theorem wp_app1T (hgd : o.guard = none) (s x : Operand) (ho : o.op = .call { callee := .builtin .append, args := #[s, x], argTypes := #[24, 24] })
    (base : Nat) (ok : Nat → Prop) (v : Value) (xs : List ByteArray) (y : ByteArray) (hs : a.eval s = v) (hx : a.eval x = .slice (some ⟨w.heap.size, 0, none⟩) 1 1)
    (hr : Kd.string.R 9 w base ok v xs) (hbase : base ≤ w.heap.size) (len : Nat) (hlen : xs.length + 1 = len) (hl : len ≤ 1000000000000)
    (h : ∀ A' c' w', Kd.string.R 9 w' base (fun k => some k = (Value.slice A' len c').ownBlock) (.slice A' len c') (xs ++ [y]) → Chg (fun k => some k = v.ownBlock) w w' → ((Value.slice A' len c').ownBlock = v.ownBlock ∨ ∃ k, (Value.slice A' len c').ownBlock = some k ∧ w.heap.size ≤ k) → wpList Try.prog ops Q rest (a.put o.dst (.slice A' len c')) w') :
    wpList Try.prog ops Q (o :: rest) a (w.alloc (.cells #[.string y] 9)) :=
  wp_append1F (d := Kd.string) Kd.scalar_flat hgd s x 24 ho 9 (.string ByteArray.empty) 16 Try.underlying24 texts_info rfl base ok (fun _ => False) v xs y #[.string y] hs hx hr rfl (by unfold maxLen; omega) (by omega) hbase len hlen h
end
/-- The reader's place and the bound, in boxes. -/
theorem rd_texts_one {w : World} {ok : Nat → Prop} {p : Option Addr} {bs : List UInt8} {e a b : Nat} (h : IsRd w ok p true bs e) (ha : w.cell? ⟨a, 0, none⟩ = some (.pointer p)) (most : Int) (hb : w.cell? ⟨b, 0, none⟩ = some (.int .i64 most)) (hm0 : -9223372036854775808 ≤ most) (hm1 : most ≤ 9223372036854775807) :
    Calls Try.prog 38 #[.pointer (some ⟨a, 0, none⟩), .pointer (some ⟨b, 0, none⟩)] w fun x w' => x = .returned (.string (rT most bs e).1) ∧ IsRd w' ok p true (rT most bs e).2.1 (rT most bs e).2.2 ∧ Chg (At p) w w' := by
  have HI := Lib.hid h
  clear h
  go_enter Try.func38, Try.ntmps38
  go_wp2_with fail
  refine (rd_text HI.out most hm0 hm1).mono ?_
  rintro x w1 ⟨rfl, h1, h2⟩
  go_wp2
  go_ret
  exact ⟨rfl, h1, h2⟩
set_option maxHeartbeats 4000000 in
theorem rd_texts_items_pos {w : World} {ok : Nat → Prop} {g : Nat} {bs : List UInt8} {a b : Nat} (h : IsRdAt w ok g true bs 0) (ha : w.cell? ⟨a, 0, none⟩ = some (.pointer (some ⟨g, 0, none⟩))) (ha1 : ¬ ok a) (ha2 : a < w.heap.size) (most : Int) (hb : w.cell? ⟨b, 0, none⟩ = some (.int .i64 most)) (hb1 : ¬ ok b) (hb2 : b < w.heap.size) (hm0 : -9223372036854775808 ≤ most) (hm1 : most ≤ 9223372036854775807) (many : Nat) (hmany : many < 9223372036854775808) (hbs : bs.length ≤ 1000000000) :
    Calls Try.prog 37 #[.pointer (some ⟨g, 0, none⟩), .int .i64 many, .func (.func 38) #[] #[.pointer (some ⟨a, 0, none⟩), .pointer (some ⟨b, 0, none⟩)]] w fun x w' =>
      ∃ A c, x = .returned (.slice A (rList (rT most) true bs 0 many).1.length c) ∧ (rList (rT most) true bs 0 many).1.length ≤ c ∧ Kd.string.C w' (fun b => w.heap.size ≤ b) A (rList (rT most) true bs 0 many).1 ∧
        IsRdAt w' ok g true (rList (rT most) true bs 0 many).2.1 (rList (rT most) true bs 0 many).2.2 ∧ Chg (At (some ⟨g, 0, none⟩)) w w' := by
  have hg := h.lt
  have hog := h.1
  have HI : Hid (IsRd w (fun b => ok b ∧ b < w.heap.size) (some ⟨g, 0, none⟩) true bs 0) := .inl ⟨g, rfl, h.bound⟩
  have hmx : (max (many : Int) 0).toNat = many := by omega
  have hag : ∀ k, At (some ⟨g, 0, none⟩) k → k = g := fun k hk => by cases hk; rfl
  have hacell : ∀ wx, Chg (At (some ⟨g, 0, none⟩)) w wx → wx.cell? ⟨a, 0, none⟩ = some (.pointer (some ⟨g, 0, none⟩)) := fun wx hc => hc.cell ha (fun e => ha1 (by rw [show a = g from hag _ e]; exact hog))
  have hbcell : ∀ wx, Chg (At (some ⟨g, 0, none⟩)) w wx → wx.cell? ⟨b, 0, none⟩ = some (.int .i64 most) := fun wx hc => hc.cell hb (fun e => hb1 (by rw [show b = g from hag _ e]; exact hog))
  clear h ha hb
  go_enter Try.func37, Try.ntmps37
  go_wp2_with fail
  refine (rd_num HI.out many (by omega)).mono ?_
  rintro x w1 ⟨rfl, h1, hc1⟩
  have hNlt := rNum_lt true bs 0 many
  have hre := (rNum_rest true bs 0 many).len
  obtain ⟨N, bs1, e1, hr⟩ : ∃ N bs1 e1, rNum true bs 0 many = (N, bs1, e1) := ⟨_, _, _, rfl⟩
  rw [hr] at h1 hNlt hre ⊢
  simp only at hNlt hre h1
  have HRL : Hid (rList (rT most) true bs 0 many = if (rItems (rT most) N bs1 e1).2.2 = 0 then rItems (rT most) N bs1 e1 else ([], (rItems (rT most) N bs1 e1).2)) := by show _ = _; simp [rList, hmx, hr]
  have hlen := rItems_len (rT_short most) N bs1 e1
  have HLEN := Lib.hid hlen
  rcases h1 with ⟨g', e', h1⟩ | ⟨h9, _⟩
  · cases e'
    have HA1 := Lib.hid h1
    have HMX := Lib.hid hmx
    clear h1 hr hmx hlen
    go_wp2
    go_loopw [8, 9] (fun v i wr => ∃ (j : Nat) (acc : List ByteArray) (A : Option Addr) (c : Nat) (bs' : List UInt8) (e' : Nat), v = .slice A j c ∧ i = .int .u64 j ∧ j ≤ N ∧ Hid (acc.length = j ∧ rItems (rT most) N bs1 e1 = (acc ++ (rItems (rT most) (N - j) bs' e').1, (rItems (rT most) (N - j) bs' e').2)) ∧ Hid (IsRdAt wr (fun b => ok b ∧ b < w.heap.size) g true bs' e') ∧ Kd.string.R 9 wr w.heap.size (fun b => w.heap.size ≤ b) (.slice A j c) acc ∧ Chg (At (some ⟨g, 0, none⟩)) w wr) (fun _ i _ => N - (intOf i).toNat)
    case atStart => exact ⟨0, [], none, 0, bs1, e1, rfl, rfl, Nat.zero_le _, ⟨rfl, rfl⟩, HA1.out, Kd.R_nil _ _ _ _ _, hc1⟩
    case round =>
      obtain ⟨j, acc, A, c, bs', e', rfl, rfl, hj, HJ, HA, hR, hC⟩ := hrel
      have hjl : j ≤ 1000000001 := by
        have h5 := HLEN.out
        rw [HJ.out.2] at h5
        simp only [List.length_append] at h5
        have := HJ.out.1
        omega
      have s1 := hC.size
      obtain ⟨A2, c2, _, _, f2, _, _, _⟩ := HA.out.read
      have hstop : ¬ (j < N ∧ e' = 0) → Hid (rItems (rT most) N bs1 e1 = (acc, bs', e')) := by
        intro hno
        show _ = _
        rw [HJ.out.2]
        have h6 : rItems (rT most) (N - j) bs' e' = ([], bs', e') := by
          by_cases he : e' = 0
          · rw [show N - j = 0 from by omega]; rfl
          · exact rItems_stop he
        rw [h6]
        simp
      have HST := Lib.hid hstop
      clear hstop
      by_cases hlt : j < N
      · by_cases he : e' = 0
        · subst he
          rw [show (((0 : Nat) : Int)) = (0 : Int) from rfl] at f2
          have b1 : (j : Int) < (N : Int) := by omega
          have HN : Hid ((acc ++ [(rT most bs' 0).1]).length = j + 1 ∧ rItems (rT most) N bs1 e1 = ((acc ++ [(rT most bs' 0).1]) ++ (rItems (rT most) (N - (j + 1)) (rT most bs' 0).2.1 (rT most bs' 0).2.2).1, (rItems (rT most) (N - (j + 1)) (rT most bs' 0).2.1 (rT most bs' 0).2.2).2)) := by
            refine ⟨by simp [HJ.out.1], ?_⟩
            rw [HJ.out.2, show N - j = (N - (j + 1)) + 1 from by omega, rItems, if_pos rfl]
            simp
          have HAC := Lib.hid (hacell _ hC)
          have HBC := Lib.hid (hbcell _ hC)
          go_wp2_with fail
          refine (rd_texts_one (.inl ⟨g, rfl, HA.out⟩) HAC.out most HBC.out hm0 hm1).mono ?_
          rintro x w3 ⟨rfl, h3, hc3⟩
          rcases h3 with ⟨g', e', h3⟩ | ⟨h9, _⟩
          · cases e'
            have HA3 := Lib.hid h3
            have hR3 := Kd.R_chg hR hc3 (fun k hk e => by have := hag _ e; omega)
            have hC3 := hC.trans hc3 (fun k hk => .inl hk)
            have s3 := hC3.size
            obtain ⟨y, hy⟩ : ∃ y, (rT most bs' 0).1 = y := ⟨_, rfl⟩
            obtain ⟨bs2, hbs2⟩ : ∃ y, (rT most bs' 0).2.1 = y := ⟨_, rfl⟩
            obtain ⟨e2, he2⟩ : ∃ y, (rT most bs' 0).2.2 = y := ⟨_, rfl⟩
            rw [hy, hbs2, he2] at HN
            rw [hbs2, he2] at HA3
            rw [hy]
            clear hy hbs2 he2 h3 hc3 hR hC f2
            go_wp2_with (at_builtin; refine wp_app1T rfl _ _ rfl w.heap.size _ (.slice A j c) acc y rfl rfl hR3 s3 (j + 1) ?_ ?_ ?_)
            · rw [HJ.out.1]
            · omega
            intro A5 c5 w5 hR5 hC5 _
            have HA5 : Hid (IsRdAt w5 (fun b => ok b ∧ b < w.heap.size) g true bs2 e2) := HA3.out.chg hC5 (fun k hk e => by have := (Kd.R_own hR3 k e.symm).1; omega)
            have hC6 := hC3.trans hC5 (fun k hk => .inr (Kd.R_own hR3 k hk.symm).1)
            have hR6 := Kd.R_ge Kd.scalar_flat hR5
            clear hR5 hC5 hR3 hC3
            go_wp2
            go_roundw
            case rel => exact ⟨j + 1, _, A5, c5, bs2, e2, rfl, by go_num, by omega, HN, HA5, hR6, hC6⟩
            case measure => simp [intOf]; omega
          · cases h9
        · have he' : ((e' : Int) == 0) = false := by simp; omega
          have HE := HST.out (fun h => he h.2)
          have b1 : (j : Int) < (N : Int) := by omega
          go_wp2
          go_ret
          rw [HRL.out, HE.out, if_neg he]
          exact ⟨none, 0, rfl, Nat.le_refl _, Kd.C_nil _ _ _ _, HA.out.mono (fun b hb => hb.1), hC⟩
      · have HE := HST.out (fun h => hlt h.1)
        have b1 : ¬ (j : Int) < (N : Int) := by omega
        by_cases he : e' = 0
        · subst he
          rw [show (((0 : Nat) : Int)) = (0 : Int) from rfl] at f2
          have HEN : Hid (∃ A' c', Ending.returned (Value.slice A j c) = .returned (.slice A' (rList (rT most) true bs 0 many).1.length c') ∧ (rList (rT most) true bs 0 many).1.length ≤ c' ∧ Kd.string.C wr (fun b => w.heap.size ≤ b) A' (rList (rT most) true bs 0 many).1 ∧
              IsRdAt wr ok g true (rList (rT most) true bs 0 many).2.1 (rList (rT most) true bs 0 many).2.2 ∧ Chg (At (some ⟨g, 0, none⟩)) w wr) := by
            rw [HRL.out, HE.out, if_pos rfl]
            obtain ⟨k1, k2, k3⟩ := Kd.R_read hR
            exact ⟨A, c, by rw [k2], by rw [k2]; exact k3, k1, HA.out.mono (fun b hb => hb.1), hC⟩
          clear hR
          go_wp2
          go_ret
          exact HEN.out
        · have he' : ((e' : Int) == 0) = false := by simp; omega
          go_wp2
          go_ret
          rw [HRL.out, HE.out, if_neg he]
          exact ⟨none, 0, rfl, Nat.le_refl _, Kd.C_nil _ _ _ _, HA.out.mono (fun b hb => hb.1), hC⟩
  · cases h9
set_option maxHeartbeats 4000000 in
theorem rd_texts_items_neg {w : World} {ok : Nat → Prop} {g : Nat} {bs : List UInt8} {a b : Nat} (h : IsRdAt w ok g true bs 0) (ha : w.cell? ⟨a, 0, none⟩ = some (.pointer (some ⟨g, 0, none⟩))) (ha1 : ¬ ok a) (ha2 : a < w.heap.size) (most : Int) (hb : w.cell? ⟨b, 0, none⟩ = some (.int .i64 most)) (hb1 : ¬ ok b) (hb2 : b < w.heap.size) (hm0 : -9223372036854775808 ≤ most) (hm1 : most ≤ 9223372036854775807) (many : Int) (hm2 : -9223372036854775808 ≤ many) (hm3 : many < 0) (hbs : bs.length ≤ 1000000000) :
    Calls Try.prog 37 #[.pointer (some ⟨g, 0, none⟩), .int .i64 many, .func (.func 38) #[] #[.pointer (some ⟨a, 0, none⟩), .pointer (some ⟨b, 0, none⟩)]] w fun x w' =>
      ∃ A c, x = .returned (.slice A (rList (rT most) true bs 0 many).1.length c) ∧ (rList (rT most) true bs 0 many).1.length ≤ c ∧ Kd.string.C w' (fun b => w.heap.size ≤ b) A (rList (rT most) true bs 0 many).1 ∧
        IsRdAt w' ok g true (rList (rT most) true bs 0 many).2.1 (rList (rT most) true bs 0 many).2.2 ∧ Chg (At (some ⟨g, 0, none⟩)) w w' := by
  have hg := h.lt
  have hog := h.1
  have HI : Hid (IsRd w (fun b => ok b ∧ b < w.heap.size) (some ⟨g, 0, none⟩) true bs 0) := .inl ⟨g, rfl, h.bound⟩
  have hmx : (max (many : Int) 0).toNat = 0 := by omega
  have hag : ∀ k, At (some ⟨g, 0, none⟩) k → k = g := fun k hk => by cases hk; rfl
  have hacell : ∀ wx, Chg (At (some ⟨g, 0, none⟩)) w wx → wx.cell? ⟨a, 0, none⟩ = some (.pointer (some ⟨g, 0, none⟩)) := fun wx hc => hc.cell ha (fun e => ha1 (by rw [show a = g from hag _ e]; exact hog))
  have hbcell : ∀ wx, Chg (At (some ⟨g, 0, none⟩)) w wx → wx.cell? ⟨b, 0, none⟩ = some (.int .i64 most) := fun wx hc => hc.cell hb (fun e => hb1 (by rw [show b = g from hag _ e]; exact hog))
  clear h ha hb
  go_enter Try.func37, Try.ntmps37
  go_wp2_with fail
  refine (rd_num HI.out 0 (by omega)).mono ?_
  rintro x w1 ⟨rfl, h1, hc1⟩
  have hNlt := rNum_lt true bs 0 0
  have hre := (rNum_rest true bs 0 0).len
  obtain ⟨N, bs1, e1, hr⟩ : ∃ N bs1 e1, rNum true bs 0 0 = (N, bs1, e1) := ⟨_, _, _, rfl⟩
  rw [hr] at h1 hNlt hre ⊢
  simp only at hNlt hre h1
  have HRL : Hid (rList (rT most) true bs 0 many = if (rItems (rT most) N bs1 e1).2.2 = 0 then rItems (rT most) N bs1 e1 else ([], (rItems (rT most) N bs1 e1).2)) := by show _ = _; simp [rList, hmx, hr]
  have hlen := rItems_len (rT_short most) N bs1 e1
  have HLEN := Lib.hid hlen
  rcases h1 with ⟨g', e', h1⟩ | ⟨h9, _⟩
  · cases e'
    have HA1 := Lib.hid h1
    have HMX := Lib.hid hmx
    clear h1 hr hmx hlen
    go_wp2
    go_loopw [8, 9] (fun v i wr => ∃ (j : Nat) (acc : List ByteArray) (A : Option Addr) (c : Nat) (bs' : List UInt8) (e' : Nat), v = .slice A j c ∧ i = .int .u64 j ∧ j ≤ N ∧ Hid (acc.length = j ∧ rItems (rT most) N bs1 e1 = (acc ++ (rItems (rT most) (N - j) bs' e').1, (rItems (rT most) (N - j) bs' e').2)) ∧ Hid (IsRdAt wr (fun b => ok b ∧ b < w.heap.size) g true bs' e') ∧ Kd.string.R 9 wr w.heap.size (fun b => w.heap.size ≤ b) (.slice A j c) acc ∧ Chg (At (some ⟨g, 0, none⟩)) w wr) (fun _ i _ => N - (intOf i).toNat)
    case atStart => exact ⟨0, [], none, 0, bs1, e1, rfl, rfl, Nat.zero_le _, ⟨rfl, rfl⟩, HA1.out, Kd.R_nil _ _ _ _ _, hc1⟩
    case round =>
      obtain ⟨j, acc, A, c, bs', e', rfl, rfl, hj, HJ, HA, hR, hC⟩ := hrel
      have hjl : j ≤ 1000000001 := by
        have h5 := HLEN.out
        rw [HJ.out.2] at h5
        simp only [List.length_append] at h5
        have := HJ.out.1
        omega
      have s1 := hC.size
      obtain ⟨A2, c2, _, _, f2, _, _, _⟩ := HA.out.read
      have hstop : ¬ (j < N ∧ e' = 0) → Hid (rItems (rT most) N bs1 e1 = (acc, bs', e')) := by
        intro hno
        show _ = _
        rw [HJ.out.2]
        have h6 : rItems (rT most) (N - j) bs' e' = ([], bs', e') := by
          by_cases he : e' = 0
          · rw [show N - j = 0 from by omega]; rfl
          · exact rItems_stop he
        rw [h6]
        simp
      have HST := Lib.hid hstop
      clear hstop
      by_cases hlt : j < N
      · by_cases he : e' = 0
        · subst he
          rw [show (((0 : Nat) : Int)) = (0 : Int) from rfl] at f2
          have b1 : (j : Int) < (N : Int) := by omega
          have HN : Hid ((acc ++ [(rT most bs' 0).1]).length = j + 1 ∧ rItems (rT most) N bs1 e1 = ((acc ++ [(rT most bs' 0).1]) ++ (rItems (rT most) (N - (j + 1)) (rT most bs' 0).2.1 (rT most bs' 0).2.2).1, (rItems (rT most) (N - (j + 1)) (rT most bs' 0).2.1 (rT most bs' 0).2.2).2)) := by
            refine ⟨by simp [HJ.out.1], ?_⟩
            rw [HJ.out.2, show N - j = (N - (j + 1)) + 1 from by omega, rItems, if_pos rfl]
            simp
          have HAC := Lib.hid (hacell _ hC)
          have HBC := Lib.hid (hbcell _ hC)
          go_wp2_with fail
          refine (rd_texts_one (.inl ⟨g, rfl, HA.out⟩) HAC.out most HBC.out hm0 hm1).mono ?_
          rintro x w3 ⟨rfl, h3, hc3⟩
          rcases h3 with ⟨g', e', h3⟩ | ⟨h9, _⟩
          · cases e'
            have HA3 := Lib.hid h3
            have hR3 := Kd.R_chg hR hc3 (fun k hk e => by have := hag _ e; omega)
            have hC3 := hC.trans hc3 (fun k hk => .inl hk)
            have s3 := hC3.size
            obtain ⟨y, hy⟩ : ∃ y, (rT most bs' 0).1 = y := ⟨_, rfl⟩
            obtain ⟨bs2, hbs2⟩ : ∃ y, (rT most bs' 0).2.1 = y := ⟨_, rfl⟩
            obtain ⟨e2, he2⟩ : ∃ y, (rT most bs' 0).2.2 = y := ⟨_, rfl⟩
            rw [hy, hbs2, he2] at HN
            rw [hbs2, he2] at HA3
            rw [hy]
            clear hy hbs2 he2 h3 hc3 hR hC f2
            go_wp2_with (at_builtin; refine wp_app1T rfl _ _ rfl w.heap.size _ (.slice A j c) acc y rfl rfl hR3 s3 (j + 1) ?_ ?_ ?_)
            · rw [HJ.out.1]
            · omega
            intro A5 c5 w5 hR5 hC5 _
            have HA5 : Hid (IsRdAt w5 (fun b => ok b ∧ b < w.heap.size) g true bs2 e2) := HA3.out.chg hC5 (fun k hk e => by have := (Kd.R_own hR3 k e.symm).1; omega)
            have hC6 := hC3.trans hC5 (fun k hk => .inr (Kd.R_own hR3 k hk.symm).1)
            have hR6 := Kd.R_ge Kd.scalar_flat hR5
            clear hR5 hC5 hR3 hC3
            go_wp2
            go_roundw
            case rel => exact ⟨j + 1, _, A5, c5, bs2, e2, rfl, by go_num, by omega, HN, HA5, hR6, hC6⟩
            case measure => simp [intOf]; omega
          · cases h9
        · have he' : ((e' : Int) == 0) = false := by simp; omega
          have HE := HST.out (fun h => he h.2)
          have b1 : (j : Int) < (N : Int) := by omega
          go_wp2
          go_ret
          rw [HRL.out, HE.out, if_neg he]
          exact ⟨none, 0, rfl, Nat.le_refl _, Kd.C_nil _ _ _ _, HA.out.mono (fun b hb => hb.1), hC⟩
      · have HE := HST.out (fun h => hlt h.1)
        have b1 : ¬ (j : Int) < (N : Int) := by omega
        by_cases he : e' = 0
        · subst he
          rw [show (((0 : Nat) : Int)) = (0 : Int) from rfl] at f2
          have HEN : Hid (∃ A' c', Ending.returned (Value.slice A j c) = .returned (.slice A' (rList (rT most) true bs 0 many).1.length c') ∧ (rList (rT most) true bs 0 many).1.length ≤ c' ∧ Kd.string.C wr (fun b => w.heap.size ≤ b) A' (rList (rT most) true bs 0 many).1 ∧
              IsRdAt wr ok g true (rList (rT most) true bs 0 many).2.1 (rList (rT most) true bs 0 many).2.2 ∧ Chg (At (some ⟨g, 0, none⟩)) w wr) := by
            rw [HRL.out, HE.out, if_pos rfl]
            obtain ⟨k1, k2, k3⟩ := Kd.R_read hR
            exact ⟨A, c, by rw [k2], by rw [k2]; exact k3, k1, HA.out.mono (fun b hb => hb.1), hC⟩
          clear hR
          go_wp2
          go_ret
          exact HEN.out
        · have he' : ((e' : Int) == 0) = false := by simp; omega
          go_wp2
          go_ret
          rw [HRL.out, HE.out, if_neg he]
          exact ⟨none, 0, rfl, Nat.le_refl _, Kd.C_nil _ _ _ _, HA.out.mono (fun b hb => hb.1), hC⟩
  · cases h9
theorem rd_texts_items {w : World} {ok : Nat → Prop} {g : Nat} {bs : List UInt8} {a b : Nat} (h : IsRdAt w ok g true bs 0) (ha : w.cell? ⟨a, 0, none⟩ = some (.pointer (some ⟨g, 0, none⟩))) (ha1 : ¬ ok a) (ha2 : a < w.heap.size) (most : Int) (hb : w.cell? ⟨b, 0, none⟩ = some (.int .i64 most)) (hb1 : ¬ ok b) (hb2 : b < w.heap.size) (hm0 : -9223372036854775808 ≤ most) (hm1 : most ≤ 9223372036854775807) (many : Int) (hn0 : -9223372036854775808 ≤ many) (hn1 : many ≤ 9223372036854775807) (hbs : bs.length ≤ 1000000000) :
    Calls Try.prog 37 #[.pointer (some ⟨g, 0, none⟩), .int .i64 many, .func (.func 38) #[] #[.pointer (some ⟨a, 0, none⟩), .pointer (some ⟨b, 0, none⟩)]] w fun x w' =>
      ∃ A c, x = .returned (.slice A (rList (rT most) true bs 0 many).1.length c) ∧ (rList (rT most) true bs 0 many).1.length ≤ c ∧ Kd.string.C w' (fun b => w.heap.size ≤ b) A (rList (rT most) true bs 0 many).1 ∧
        IsRdAt w' ok g true (rList (rT most) true bs 0 many).2.1 (rList (rT most) true bs 0 many).2.2 ∧ Chg (At (some ⟨g, 0, none⟩)) w w' := by
  by_cases hp : 0 ≤ many
  · obtain ⟨n, rfl⟩ := Int.eq_ofNat_of_zero_le hp
    exact rd_texts_items_pos h ha ha1 ha2 most hb hb1 hb2 hm0 hm1 n (by omega) hbs
  · exact rd_texts_items_neg h ha ha1 ha2 most hb hb1 hb2 hm0 hm1 many hn0 (by omega) hbs
set_option maxHeartbeats 1000000 in
theorem rd_texts {w : World} {ok : Nat → Prop} {p : Option Addr} {mk : Bool} {bs : List UInt8} {e : Nat} (h : IsRd w ok p mk bs e) (many : Int) (hn0 : -9223372036854775808 ≤ many) (hn1 : many ≤ 9223372036854775807) (most : Int) (hm0 : -9223372036854775808 ≤ most) (hm1 : most ≤ 9223372036854775807) (hbs : bs.length ≤ 1000000000) :
    Calls Try.prog 22 #[.pointer p, .int .i64 many, .int .i64 most] w fun x w' =>
      ∃ A c, x = .returned (.slice A (rList (rT most) mk bs e many).1.length c) ∧ (rList (rT most) mk bs e many).1.length ≤ c ∧ Kd.string.C w' (fun b => w.heap.size ≤ b) A (rList (rT most) mk bs e many).1 ∧
        IsRd w' ok p mk (rList (rT most) mk bs e many).2.1 (rList (rT most) mk bs e many).2.2 ∧ Chg (At p) w w' := by
  have HI := Lib.hid h
  by_cases hst : mk = true ∧ e = 0
  · obtain ⟨rfl, rfl⟩ := hst
    rcases h with ⟨g, rfl, h⟩ | ⟨_, h, _⟩
    · have hg := h.lt
      have HA : Hid (IsRdAt w (fun b => ok b ∧ b < w.heap.size) g true bs 0) := h.bound
      clear h
      go_enter Try.func22, Try.ntmps22
      go_wp2_with fail
      obtain ⟨w1, hw1⟩ : ∃ w1, w1 = (w.alloc (.cells #[.pointer (some ⟨g, 0, none⟩)] 42)).alloc (.cells #[.int .i64 most] 3) := ⟨_, rfl⟩
      have hc1 : Chg nob w w1 := by rw [hw1]; exact ((Chg.refl _ _).alloc _).alloc _
      have ca : w1.cell? ⟨w.heap.size, 0, none⟩ = some (.pointer (some ⟨g, 0, none⟩)) := by
        rw [hw1]
        have h5 : (w.alloc (.cells #[.pointer (some ⟨g, 0, none⟩)] 42)).heap[w.heap.size]? = some (.cells #[.pointer (some ⟨g, 0, none⟩)] 42) := heap_alloc_new w _
        have h6 := ((Chg.refl nob (w.alloc (.cells #[.pointer (some ⟨g, 0, none⟩)] 42))).alloc (.cells #[.int .i64 most] 3)).heap h5 (not_nob _)
        rw [cell_of_row _ _ 0 _ _ _ h6]
        rfl
      have cb : w1.cell? ⟨w.heap.size + 1, 0, none⟩ = some (.int .i64 most) := by
        rw [hw1]
        have h5 := heap_alloc_new (w.alloc (.cells #[.pointer (some ⟨g, 0, none⟩)] 42)) (.cells #[.int .i64 most] 3)
        rw [show (w.alloc (.cells #[.pointer (some ⟨g, 0, none⟩)] 42)).heap.size = w.heap.size + 1 from by simp] at h5
        rw [cell_of_row _ _ 0 _ _ _ h5]
        rfl
      have hsz : w1.heap.size = w.heap.size + 2 := by rw [hw1]; simp
      rw [← hw1]
      clear hw1
      have HA1 : Hid (IsRdAt w1 (fun b => ok b ∧ b < w.heap.size) g true bs 0) := HA.out.chg hc1 (fun b _ => not_nob b)
      refine (rd_stands (.inl ⟨g, rfl, HA1.out⟩)).mono ?_
      rintro x w2 ⟨rfl, rfl⟩
      simp only [decide_true, Bool.and_true]
      go_wp2_with fail
      refine (rd_texts_items HA1.out ca (fun h => Nat.lt_irrefl _ h.2) (by omega) most cb (fun h => by have := h.2; omega) (by omega) hm0 hm1 many hn0 hn1 hbs).mono ?_
      rintro x w3 ⟨A, c, rfl, h1, h2, h3, h4⟩
      have HE : Hid (∃ A' c', Ending.returned (Value.slice A (rList (rT most) true bs 0 many).1.length c) = .returned (.slice A' (rList (rT most) true bs 0 many).1.length c') ∧ (rList (rT most) true bs 0 many).1.length ≤ c' ∧ Kd.string.C w3 (fun b => w.heap.size ≤ b) A' (rList (rT most) true bs 0 many).1 ∧
          IsRd w3 ok (some ⟨g, 0, none⟩) true (rList (rT most) true bs 0 many).2.1 (rList (rT most) true bs 0 many).2.2 ∧ Chg (At (some ⟨g, 0, none⟩)) w w3) :=
        ⟨A, c, rfl, h1, Kd.C_mono h2 (fun b hb => by omega), .inl ⟨g, rfl, h3.mono (fun b hb => hb.1)⟩, (Chg.ofNew hc1).trans h4 (fun b hb => .inl hb)⟩
      clear h1 h2 h3 h4 HI HA HA1
      go_wp2
      go_ret
      exact HE.out
    · cases h
  · have hb : (mk && decide (e = 0)) = false := by
      cases mk <;> simp_all
    have HR : Hid (rList (rT most) mk bs e many = ([], bs, e)) := by show _ = _; rw [rList, if_neg hst]
    clear h
    go_enter Try.func22, Try.ntmps22
    go_wp2_with fail
    have hc1 : Chg nob w ((w.alloc (.cells #[.pointer p] 42)).alloc (.cells #[.int .i64 most] 3)) := ((Chg.refl _ _).alloc _).alloc _
    refine (rd_stands (HI.out.new hc1)).mono ?_
    rintro x w1 ⟨rfl, rfl⟩
    rw [hb]
    go_wp2
    go_ret
    rw [HR.out]
    exact ⟨none, 0, rfl, Nat.le_refl _, Kd.C_nil _ _ _ _, HI.out.new hc1, hc1.ofNew⟩

theorem nums_info : (Try.prog.info? 23).map (fun i => (i.zero, i.size, i.bytes)) = some (some (.int .u64 0), 1, 8) := by kernel_rfl
section
variable {ops : Array Oper} {Q : Exit → Act → World → Prop} {rest : List Oper} {a : Act} {w : World} {o : Oper}
theorem wp_app1U (hgd : o.guard = none) (s x : Operand) (ho : o.op = .call { callee := .builtin .append, args := #[s, x], argTypes := #[25, 25] })
    (base : Nat) (ok : Nat → Prop) (v : Value) (xs : List Int) (y : Int) (hs : a.eval s = v) (hx : a.eval x = .slice (some ⟨w.heap.size, 0, none⟩) 1 1)
    (hr : (Kd.int .u64).R 23 w base ok v xs) (hbase : base ≤ w.heap.size) (len : Nat) (hlen : xs.length + 1 = len) (hl : len ≤ 1000000000000)
    (h : ∀ A' c' w', (Kd.int .u64).R 23 w' base (fun k => some k = (Value.slice A' len c').ownBlock) (.slice A' len c') (xs ++ [y]) → Chg (fun k => some k = v.ownBlock) w w' → ((Value.slice A' len c').ownBlock = v.ownBlock ∨ ∃ k, (Value.slice A' len c').ownBlock = some k ∧ w.heap.size ≤ k) → wpList Try.prog ops Q rest (a.put o.dst (.slice A' len c')) w') :
    wpList Try.prog ops Q (o :: rest) a (w.alloc (.cells #[.int .u64 y] 23)) :=
  wp_append1F (d := (Kd.int .u64)) Kd.scalar_flat hgd s x 25 ho 23 (.int .u64 0) 8 Try.underlying25 nums_info rfl base ok (fun _ => False) v xs y #[.int .u64 y] hs hx hr rfl (by unfold maxLen; omega) (by omega) hbase len hlen h
end
/-- The reader's place and the bound, in boxes. -/
theorem rd_nums_one {w : World} {ok : Nat → Prop} {p : Option Addr} {bs : List UInt8} {e a b : Nat} (h : IsRd w ok p true bs e) (ha : w.cell? ⟨a, 0, none⟩ = some (.pointer p)) (most : Nat) (hb : w.cell? ⟨b, 0, none⟩ = some (.int .u64 most)) (hm : most < 18446744073709551616) :
    Calls Try.prog 40 #[.pointer (some ⟨a, 0, none⟩), .pointer (some ⟨b, 0, none⟩)] w fun x w' => x = .returned (.int .u64 (rU most bs e).1) ∧ IsRd w' ok p true (rU most bs e).2.1 (rU most bs e).2.2 ∧ Chg (At p) w w' := by
  have HI := Lib.hid h
  clear h
  go_enter Try.func40, Try.ntmps40
  go_wp2_with fail
  refine (rd_num HI.out most hm).mono ?_
  rintro x w1 ⟨rfl, h1, h2⟩
  go_wp2
  go_ret
  exact ⟨rfl, h1, h2⟩
set_option maxHeartbeats 4000000 in
theorem rd_nums_items_pos {w : World} {ok : Nat → Prop} {g : Nat} {bs : List UInt8} {a b : Nat} (h : IsRdAt w ok g true bs 0) (ha : w.cell? ⟨a, 0, none⟩ = some (.pointer (some ⟨g, 0, none⟩))) (ha1 : ¬ ok a) (ha2 : a < w.heap.size) (most : Nat) (hb : w.cell? ⟨b, 0, none⟩ = some (.int .u64 most)) (hb1 : ¬ ok b) (hb2 : b < w.heap.size) (hm : most < 18446744073709551616) (many : Nat) (hmany : many < 9223372036854775808) (hbs : bs.length ≤ 1000000000) :
    Calls Try.prog 39 #[.pointer (some ⟨g, 0, none⟩), .int .i64 many, .func (.func 40) #[] #[.pointer (some ⟨a, 0, none⟩), .pointer (some ⟨b, 0, none⟩)]] w fun x w' =>
      ∃ A c, x = .returned (.slice A (rList (rU most) true bs 0 many).1.length c) ∧ (rList (rU most) true bs 0 many).1.length ≤ c ∧ (Kd.int .u64).C w' (fun b => w.heap.size ≤ b) A (rList (rU most) true bs 0 many).1 ∧
        IsRdAt w' ok g true (rList (rU most) true bs 0 many).2.1 (rList (rU most) true bs 0 many).2.2 ∧ Chg (At (some ⟨g, 0, none⟩)) w w' := by
  have hg := h.lt
  have hog := h.1
  have HI : Hid (IsRd w (fun b => ok b ∧ b < w.heap.size) (some ⟨g, 0, none⟩) true bs 0) := .inl ⟨g, rfl, h.bound⟩
  have hmx : (max (many : Int) 0).toNat = many := by omega
  have hag : ∀ k, At (some ⟨g, 0, none⟩) k → k = g := fun k hk => by cases hk; rfl
  have hacell : ∀ wx, Chg (At (some ⟨g, 0, none⟩)) w wx → wx.cell? ⟨a, 0, none⟩ = some (.pointer (some ⟨g, 0, none⟩)) := fun wx hc => hc.cell ha (fun e => ha1 (by rw [show a = g from hag _ e]; exact hog))
  have hbcell : ∀ wx, Chg (At (some ⟨g, 0, none⟩)) w wx → wx.cell? ⟨b, 0, none⟩ = some (.int .u64 most) := fun wx hc => hc.cell hb (fun e => hb1 (by rw [show b = g from hag _ e]; exact hog))
  clear h ha hb
  go_enter Try.func39, Try.ntmps39
  go_wp2_with fail
  refine (rd_num HI.out many (by omega)).mono ?_
  rintro x w1 ⟨rfl, h1, hc1⟩
  have hNlt := rNum_lt true bs 0 many
  have hre := (rNum_rest true bs 0 many).len
  obtain ⟨N, bs1, e1, hr⟩ : ∃ N bs1 e1, rNum true bs 0 many = (N, bs1, e1) := ⟨_, _, _, rfl⟩
  rw [hr] at h1 hNlt hre ⊢
  simp only at hNlt hre h1
  have HRL : Hid (rList (rU most) true bs 0 many = if (rItems (rU most) N bs1 e1).2.2 = 0 then rItems (rU most) N bs1 e1 else ([], (rItems (rU most) N bs1 e1).2)) := by show _ = _; simp [rList, hmx, hr]
  have hlen := rItems_len (rU_short most) N bs1 e1
  have HLEN := Lib.hid hlen
  rcases h1 with ⟨g', e', h1⟩ | ⟨h9, _⟩
  · cases e'
    have HA1 := Lib.hid h1
    have HMX := Lib.hid hmx
    clear h1 hr hmx hlen
    go_wp2
    go_loopw [8, 9] (fun v i wr => ∃ (j : Nat) (acc : List Int) (A : Option Addr) (c : Nat) (bs' : List UInt8) (e' : Nat), v = .slice A j c ∧ i = .int .u64 j ∧ j ≤ N ∧ Hid (acc.length = j ∧ rItems (rU most) N bs1 e1 = (acc ++ (rItems (rU most) (N - j) bs' e').1, (rItems (rU most) (N - j) bs' e').2)) ∧ Hid (IsRdAt wr (fun b => ok b ∧ b < w.heap.size) g true bs' e') ∧ (Kd.int .u64).R 23 wr w.heap.size (fun b => w.heap.size ≤ b) (.slice A j c) acc ∧ Chg (At (some ⟨g, 0, none⟩)) w wr) (fun _ i _ => N - (intOf i).toNat)
    case atStart => exact ⟨0, [], none, 0, bs1, e1, rfl, rfl, Nat.zero_le _, ⟨rfl, rfl⟩, HA1.out, Kd.R_nil _ _ _ _ _, hc1⟩
    case round =>
      obtain ⟨j, acc, A, c, bs', e', rfl, rfl, hj, HJ, HA, hR, hC⟩ := hrel
      have hjl : j ≤ 1000000001 := by
        have h5 := HLEN.out
        rw [HJ.out.2] at h5
        simp only [List.length_append] at h5
        have := HJ.out.1
        omega
      have s1 := hC.size
      obtain ⟨A2, c2, _, _, f2, _, _, _⟩ := HA.out.read
      have hstop : ¬ (j < N ∧ e' = 0) → Hid (rItems (rU most) N bs1 e1 = (acc, bs', e')) := by
        intro hno
        show _ = _
        rw [HJ.out.2]
        have h6 : rItems (rU most) (N - j) bs' e' = ([], bs', e') := by
          by_cases he : e' = 0
          · rw [show N - j = 0 from by omega]; rfl
          · exact rItems_stop he
        rw [h6]
        simp
      have HST := Lib.hid hstop
      clear hstop
      by_cases hlt : j < N
      · by_cases he : e' = 0
        · subst he
          rw [show (((0 : Nat) : Int)) = (0 : Int) from rfl] at f2
          have b1 : (j : Int) < (N : Int) := by omega
          have HN : Hid ((acc ++ [(rU most bs' 0).1]).length = j + 1 ∧ rItems (rU most) N bs1 e1 = ((acc ++ [(rU most bs' 0).1]) ++ (rItems (rU most) (N - (j + 1)) (rU most bs' 0).2.1 (rU most bs' 0).2.2).1, (rItems (rU most) (N - (j + 1)) (rU most bs' 0).2.1 (rU most bs' 0).2.2).2)) := by
            refine ⟨by simp [HJ.out.1], ?_⟩
            rw [HJ.out.2, show N - j = (N - (j + 1)) + 1 from by omega, rItems, if_pos rfl]
            simp
          have HAC := Lib.hid (hacell _ hC)
          have HBC := Lib.hid (hbcell _ hC)
          go_wp2_with fail
          refine (rd_nums_one (.inl ⟨g, rfl, HA.out⟩) HAC.out most HBC.out hm).mono ?_
          rintro x w3 ⟨rfl, h3, hc3⟩
          rcases h3 with ⟨g', e', h3⟩ | ⟨h9, _⟩
          · cases e'
            have HA3 := Lib.hid h3
            have hR3 := Kd.R_chg hR hc3 (fun k hk e => by have := hag _ e; omega)
            have hC3 := hC.trans hc3 (fun k hk => .inl hk)
            have s3 := hC3.size
            obtain ⟨y, hy⟩ : ∃ y, (rU most bs' 0).1 = y := ⟨_, rfl⟩
            obtain ⟨bs2, hbs2⟩ : ∃ y, (rU most bs' 0).2.1 = y := ⟨_, rfl⟩
            obtain ⟨e2, he2⟩ : ∃ y, (rU most bs' 0).2.2 = y := ⟨_, rfl⟩
            rw [hy, hbs2, he2] at HN
            rw [hbs2, he2] at HA3
            rw [hy]
            clear hy hbs2 he2 h3 hc3 hR hC f2
            go_wp2_with (at_builtin; refine wp_app1U rfl _ _ rfl w.heap.size _ (.slice A j c) acc y rfl rfl hR3 s3 (j + 1) ?_ ?_ ?_)
            · rw [HJ.out.1]
            · omega
            intro A5 c5 w5 hR5 hC5 _
            have HA5 : Hid (IsRdAt w5 (fun b => ok b ∧ b < w.heap.size) g true bs2 e2) := HA3.out.chg hC5 (fun k hk e => by have := (Kd.R_own hR3 k e.symm).1; omega)
            have hC6 := hC3.trans hC5 (fun k hk => .inr (Kd.R_own hR3 k hk.symm).1)
            have hR6 := Kd.R_ge Kd.scalar_flat hR5
            clear hR5 hC5 hR3 hC3
            go_wp2
            go_roundw
            case rel => exact ⟨j + 1, _, A5, c5, bs2, e2, rfl, by go_num, by omega, HN, HA5, hR6, hC6⟩
            case measure => simp [intOf]; omega
          · cases h9
        · have he' : ((e' : Int) == 0) = false := by simp; omega
          have HE := HST.out (fun h => he h.2)
          have b1 : (j : Int) < (N : Int) := by omega
          go_wp2
          go_ret
          rw [HRL.out, HE.out, if_neg he]
          exact ⟨none, 0, rfl, Nat.le_refl _, Kd.C_nil _ _ _ _, HA.out.mono (fun b hb => hb.1), hC⟩
      · have HE := HST.out (fun h => hlt h.1)
        have b1 : ¬ (j : Int) < (N : Int) := by omega
        by_cases he : e' = 0
        · subst he
          rw [show (((0 : Nat) : Int)) = (0 : Int) from rfl] at f2
          have HEN : Hid (∃ A' c', Ending.returned (Value.slice A j c) = .returned (.slice A' (rList (rU most) true bs 0 many).1.length c') ∧ (rList (rU most) true bs 0 many).1.length ≤ c' ∧ (Kd.int .u64).C wr (fun b => w.heap.size ≤ b) A' (rList (rU most) true bs 0 many).1 ∧
              IsRdAt wr ok g true (rList (rU most) true bs 0 many).2.1 (rList (rU most) true bs 0 many).2.2 ∧ Chg (At (some ⟨g, 0, none⟩)) w wr) := by
            rw [HRL.out, HE.out, if_pos rfl]
            obtain ⟨k1, k2, k3⟩ := Kd.R_read hR
            exact ⟨A, c, by rw [k2], by rw [k2]; exact k3, k1, HA.out.mono (fun b hb => hb.1), hC⟩
          clear hR
          go_wp2
          go_ret
          exact HEN.out
        · have he' : ((e' : Int) == 0) = false := by simp; omega
          go_wp2
          go_ret
          rw [HRL.out, HE.out, if_neg he]
          exact ⟨none, 0, rfl, Nat.le_refl _, Kd.C_nil _ _ _ _, HA.out.mono (fun b hb => hb.1), hC⟩
  · cases h9
set_option maxHeartbeats 4000000 in
theorem rd_nums_items_neg {w : World} {ok : Nat → Prop} {g : Nat} {bs : List UInt8} {a b : Nat} (h : IsRdAt w ok g true bs 0) (ha : w.cell? ⟨a, 0, none⟩ = some (.pointer (some ⟨g, 0, none⟩))) (ha1 : ¬ ok a) (ha2 : a < w.heap.size) (most : Nat) (hb : w.cell? ⟨b, 0, none⟩ = some (.int .u64 most)) (hb1 : ¬ ok b) (hb2 : b < w.heap.size) (hm : most < 18446744073709551616) (many : Int) (hm2 : -9223372036854775808 ≤ many) (hm3 : many < 0) (hbs : bs.length ≤ 1000000000) :
    Calls Try.prog 39 #[.pointer (some ⟨g, 0, none⟩), .int .i64 many, .func (.func 40) #[] #[.pointer (some ⟨a, 0, none⟩), .pointer (some ⟨b, 0, none⟩)]] w fun x w' =>
      ∃ A c, x = .returned (.slice A (rList (rU most) true bs 0 many).1.length c) ∧ (rList (rU most) true bs 0 many).1.length ≤ c ∧ (Kd.int .u64).C w' (fun b => w.heap.size ≤ b) A (rList (rU most) true bs 0 many).1 ∧
        IsRdAt w' ok g true (rList (rU most) true bs 0 many).2.1 (rList (rU most) true bs 0 many).2.2 ∧ Chg (At (some ⟨g, 0, none⟩)) w w' := by
  have hg := h.lt
  have hog := h.1
  have HI : Hid (IsRd w (fun b => ok b ∧ b < w.heap.size) (some ⟨g, 0, none⟩) true bs 0) := .inl ⟨g, rfl, h.bound⟩
  have hmx : (max (many : Int) 0).toNat = 0 := by omega
  have hag : ∀ k, At (some ⟨g, 0, none⟩) k → k = g := fun k hk => by cases hk; rfl
  have hacell : ∀ wx, Chg (At (some ⟨g, 0, none⟩)) w wx → wx.cell? ⟨a, 0, none⟩ = some (.pointer (some ⟨g, 0, none⟩)) := fun wx hc => hc.cell ha (fun e => ha1 (by rw [show a = g from hag _ e]; exact hog))
  have hbcell : ∀ wx, Chg (At (some ⟨g, 0, none⟩)) w wx → wx.cell? ⟨b, 0, none⟩ = some (.int .u64 most) := fun wx hc => hc.cell hb (fun e => hb1 (by rw [show b = g from hag _ e]; exact hog))
  clear h ha hb
  go_enter Try.func39, Try.ntmps39
  go_wp2_with fail
  refine (rd_num HI.out 0 (by omega)).mono ?_
  rintro x w1 ⟨rfl, h1, hc1⟩
  have hNlt := rNum_lt true bs 0 0
  have hre := (rNum_rest true bs 0 0).len
  obtain ⟨N, bs1, e1, hr⟩ : ∃ N bs1 e1, rNum true bs 0 0 = (N, bs1, e1) := ⟨_, _, _, rfl⟩
  rw [hr] at h1 hNlt hre ⊢
  simp only at hNlt hre h1
  have HRL : Hid (rList (rU most) true bs 0 many = if (rItems (rU most) N bs1 e1).2.2 = 0 then rItems (rU most) N bs1 e1 else ([], (rItems (rU most) N bs1 e1).2)) := by show _ = _; simp [rList, hmx, hr]
  have hlen := rItems_len (rU_short most) N bs1 e1
  have HLEN := Lib.hid hlen
  rcases h1 with ⟨g', e', h1⟩ | ⟨h9, _⟩
  · cases e'
    have HA1 := Lib.hid h1
    have HMX := Lib.hid hmx
    clear h1 hr hmx hlen
    go_wp2
    go_loopw [8, 9] (fun v i wr => ∃ (j : Nat) (acc : List Int) (A : Option Addr) (c : Nat) (bs' : List UInt8) (e' : Nat), v = .slice A j c ∧ i = .int .u64 j ∧ j ≤ N ∧ Hid (acc.length = j ∧ rItems (rU most) N bs1 e1 = (acc ++ (rItems (rU most) (N - j) bs' e').1, (rItems (rU most) (N - j) bs' e').2)) ∧ Hid (IsRdAt wr (fun b => ok b ∧ b < w.heap.size) g true bs' e') ∧ (Kd.int .u64).R 23 wr w.heap.size (fun b => w.heap.size ≤ b) (.slice A j c) acc ∧ Chg (At (some ⟨g, 0, none⟩)) w wr) (fun _ i _ => N - (intOf i).toNat)
    case atStart => exact ⟨0, [], none, 0, bs1, e1, rfl, rfl, Nat.zero_le _, ⟨rfl, rfl⟩, HA1.out, Kd.R_nil _ _ _ _ _, hc1⟩
    case round =>
      obtain ⟨j, acc, A, c, bs', e', rfl, rfl, hj, HJ, HA, hR, hC⟩ := hrel
      have hjl : j ≤ 1000000001 := by
        have h5 := HLEN.out
        rw [HJ.out.2] at h5
        simp only [List.length_append] at h5
        have := HJ.out.1
        omega
      have s1 := hC.size
      obtain ⟨A2, c2, _, _, f2, _, _, _⟩ := HA.out.read
      have hstop : ¬ (j < N ∧ e' = 0) → Hid (rItems (rU most) N bs1 e1 = (acc, bs', e')) := by
        intro hno
        show _ = _
        rw [HJ.out.2]
        have h6 : rItems (rU most) (N - j) bs' e' = ([], bs', e') := by
          by_cases he : e' = 0
          · rw [show N - j = 0 from by omega]; rfl
          · exact rItems_stop he
        rw [h6]
        simp
      have HST := Lib.hid hstop
      clear hstop
      by_cases hlt : j < N
      · by_cases he : e' = 0
        · subst he
          rw [show (((0 : Nat) : Int)) = (0 : Int) from rfl] at f2
          have b1 : (j : Int) < (N : Int) := by omega
          have HN : Hid ((acc ++ [(rU most bs' 0).1]).length = j + 1 ∧ rItems (rU most) N bs1 e1 = ((acc ++ [(rU most bs' 0).1]) ++ (rItems (rU most) (N - (j + 1)) (rU most bs' 0).2.1 (rU most bs' 0).2.2).1, (rItems (rU most) (N - (j + 1)) (rU most bs' 0).2.1 (rU most bs' 0).2.2).2)) := by
            refine ⟨by simp [HJ.out.1], ?_⟩
            rw [HJ.out.2, show N - j = (N - (j + 1)) + 1 from by omega, rItems, if_pos rfl]
            simp
          have HAC := Lib.hid (hacell _ hC)
          have HBC := Lib.hid (hbcell _ hC)
          go_wp2_with fail
          refine (rd_nums_one (.inl ⟨g, rfl, HA.out⟩) HAC.out most HBC.out hm).mono ?_
          rintro x w3 ⟨rfl, h3, hc3⟩
          rcases h3 with ⟨g', e', h3⟩ | ⟨h9, _⟩
          · cases e'
            have HA3 := Lib.hid h3
            have hR3 := Kd.R_chg hR hc3 (fun k hk e => by have := hag _ e; omega)
            have hC3 := hC.trans hc3 (fun k hk => .inl hk)
            have s3 := hC3.size
            obtain ⟨y, hy⟩ : ∃ y, (rU most bs' 0).1 = y := ⟨_, rfl⟩
            obtain ⟨bs2, hbs2⟩ : ∃ y, (rU most bs' 0).2.1 = y := ⟨_, rfl⟩
            obtain ⟨e2, he2⟩ : ∃ y, (rU most bs' 0).2.2 = y := ⟨_, rfl⟩
            rw [hy, hbs2, he2] at HN
            rw [hbs2, he2] at HA3
            rw [hy]
            clear hy hbs2 he2 h3 hc3 hR hC f2
            go_wp2_with (at_builtin; refine wp_app1U rfl _ _ rfl w.heap.size _ (.slice A j c) acc y rfl rfl hR3 s3 (j + 1) ?_ ?_ ?_)
            · rw [HJ.out.1]
            · omega
            intro A5 c5 w5 hR5 hC5 _
            have HA5 : Hid (IsRdAt w5 (fun b => ok b ∧ b < w.heap.size) g true bs2 e2) := HA3.out.chg hC5 (fun k hk e => by have := (Kd.R_own hR3 k e.symm).1; omega)
            have hC6 := hC3.trans hC5 (fun k hk => .inr (Kd.R_own hR3 k hk.symm).1)
            have hR6 := Kd.R_ge Kd.scalar_flat hR5
            clear hR5 hC5 hR3 hC3
            go_wp2
            go_roundw
            case rel => exact ⟨j + 1, _, A5, c5, bs2, e2, rfl, by go_num, by omega, HN, HA5, hR6, hC6⟩
            case measure => simp [intOf]; omega
          · cases h9
        · have he' : ((e' : Int) == 0) = false := by simp; omega
          have HE := HST.out (fun h => he h.2)
          have b1 : (j : Int) < (N : Int) := by omega
          go_wp2
          go_ret
          rw [HRL.out, HE.out, if_neg he]
          exact ⟨none, 0, rfl, Nat.le_refl _, Kd.C_nil _ _ _ _, HA.out.mono (fun b hb => hb.1), hC⟩
      · have HE := HST.out (fun h => hlt h.1)
        have b1 : ¬ (j : Int) < (N : Int) := by omega
        by_cases he : e' = 0
        · subst he
          rw [show (((0 : Nat) : Int)) = (0 : Int) from rfl] at f2
          have HEN : Hid (∃ A' c', Ending.returned (Value.slice A j c) = .returned (.slice A' (rList (rU most) true bs 0 many).1.length c') ∧ (rList (rU most) true bs 0 many).1.length ≤ c' ∧ (Kd.int .u64).C wr (fun b => w.heap.size ≤ b) A' (rList (rU most) true bs 0 many).1 ∧
              IsRdAt wr ok g true (rList (rU most) true bs 0 many).2.1 (rList (rU most) true bs 0 many).2.2 ∧ Chg (At (some ⟨g, 0, none⟩)) w wr) := by
            rw [HRL.out, HE.out, if_pos rfl]
            obtain ⟨k1, k2, k3⟩ := Kd.R_read hR
            exact ⟨A, c, by rw [k2], by rw [k2]; exact k3, k1, HA.out.mono (fun b hb => hb.1), hC⟩
          clear hR
          go_wp2
          go_ret
          exact HEN.out
        · have he' : ((e' : Int) == 0) = false := by simp; omega
          go_wp2
          go_ret
          rw [HRL.out, HE.out, if_neg he]
          exact ⟨none, 0, rfl, Nat.le_refl _, Kd.C_nil _ _ _ _, HA.out.mono (fun b hb => hb.1), hC⟩
  · cases h9
theorem rd_nums_items {w : World} {ok : Nat → Prop} {g : Nat} {bs : List UInt8} {a b : Nat} (h : IsRdAt w ok g true bs 0) (ha : w.cell? ⟨a, 0, none⟩ = some (.pointer (some ⟨g, 0, none⟩))) (ha1 : ¬ ok a) (ha2 : a < w.heap.size) (most : Nat) (hb : w.cell? ⟨b, 0, none⟩ = some (.int .u64 most)) (hb1 : ¬ ok b) (hb2 : b < w.heap.size) (hm : most < 18446744073709551616) (many : Int) (hn0 : -9223372036854775808 ≤ many) (hn1 : many ≤ 9223372036854775807) (hbs : bs.length ≤ 1000000000) :
    Calls Try.prog 39 #[.pointer (some ⟨g, 0, none⟩), .int .i64 many, .func (.func 40) #[] #[.pointer (some ⟨a, 0, none⟩), .pointer (some ⟨b, 0, none⟩)]] w fun x w' =>
      ∃ A c, x = .returned (.slice A (rList (rU most) true bs 0 many).1.length c) ∧ (rList (rU most) true bs 0 many).1.length ≤ c ∧ (Kd.int .u64).C w' (fun b => w.heap.size ≤ b) A (rList (rU most) true bs 0 many).1 ∧
        IsRdAt w' ok g true (rList (rU most) true bs 0 many).2.1 (rList (rU most) true bs 0 many).2.2 ∧ Chg (At (some ⟨g, 0, none⟩)) w w' := by
  by_cases hp : 0 ≤ many
  · obtain ⟨n, rfl⟩ := Int.eq_ofNat_of_zero_le hp
    exact rd_nums_items_pos h ha ha1 ha2 most hb hb1 hb2 hm n (by omega) hbs
  · exact rd_nums_items_neg h ha ha1 ha2 most hb hb1 hb2 hm many hn0 (by omega) hbs
set_option maxHeartbeats 1000000 in
theorem rd_nums {w : World} {ok : Nat → Prop} {p : Option Addr} {mk : Bool} {bs : List UInt8} {e : Nat} (h : IsRd w ok p mk bs e) (many : Int) (hn0 : -9223372036854775808 ≤ many) (hn1 : many ≤ 9223372036854775807) (most : Nat) (hm : most < 18446744073709551616) (hbs : bs.length ≤ 1000000000) :
    Calls Try.prog 23 #[.pointer p, .int .i64 many, .int .u64 most] w fun x w' =>
      ∃ A c, x = .returned (.slice A (rList (rU most) mk bs e many).1.length c) ∧ (rList (rU most) mk bs e many).1.length ≤ c ∧ (Kd.int .u64).C w' (fun b => w.heap.size ≤ b) A (rList (rU most) mk bs e many).1 ∧
        IsRd w' ok p mk (rList (rU most) mk bs e many).2.1 (rList (rU most) mk bs e many).2.2 ∧ Chg (At p) w w' := by
  have HI := Lib.hid h
  by_cases hst : mk = true ∧ e = 0
  · obtain ⟨rfl, rfl⟩ := hst
    rcases h with ⟨g, rfl, h⟩ | ⟨_, h, _⟩
    · have hg := h.lt
      have HA : Hid (IsRdAt w (fun b => ok b ∧ b < w.heap.size) g true bs 0) := h.bound
      clear h
      go_enter Try.func23, Try.ntmps23
      go_wp2_with fail
      obtain ⟨w1, hw1⟩ : ∃ w1, w1 = (w.alloc (.cells #[.pointer (some ⟨g, 0, none⟩)] 42)).alloc (.cells #[.int .u64 most] 23) := ⟨_, rfl⟩
      have hc1 : Chg nob w w1 := by rw [hw1]; exact ((Chg.refl _ _).alloc _).alloc _
      have ca : w1.cell? ⟨w.heap.size, 0, none⟩ = some (.pointer (some ⟨g, 0, none⟩)) := by
        rw [hw1]
        have h5 : (w.alloc (.cells #[.pointer (some ⟨g, 0, none⟩)] 42)).heap[w.heap.size]? = some (.cells #[.pointer (some ⟨g, 0, none⟩)] 42) := heap_alloc_new w _
        have h6 := ((Chg.refl nob (w.alloc (.cells #[.pointer (some ⟨g, 0, none⟩)] 42))).alloc (.cells #[.int .u64 most] 23)).heap h5 (not_nob _)
        rw [cell_of_row _ _ 0 _ _ _ h6]
        rfl
      have cb : w1.cell? ⟨w.heap.size + 1, 0, none⟩ = some (.int .u64 most) := by
        rw [hw1]
        have h5 := heap_alloc_new (w.alloc (.cells #[.pointer (some ⟨g, 0, none⟩)] 42)) (.cells #[.int .u64 most] 23)
        rw [show (w.alloc (.cells #[.pointer (some ⟨g, 0, none⟩)] 42)).heap.size = w.heap.size + 1 from by simp] at h5
        rw [cell_of_row _ _ 0 _ _ _ h5]
        rfl
      have hsz : w1.heap.size = w.heap.size + 2 := by rw [hw1]; simp
      rw [← hw1]
      clear hw1
      have HA1 : Hid (IsRdAt w1 (fun b => ok b ∧ b < w.heap.size) g true bs 0) := HA.out.chg hc1 (fun b _ => not_nob b)
      refine (rd_stands (.inl ⟨g, rfl, HA1.out⟩)).mono ?_
      rintro x w2 ⟨rfl, rfl⟩
      simp only [decide_true, Bool.and_true]
      go_wp2_with fail
      refine (rd_nums_items HA1.out ca (fun h => Nat.lt_irrefl _ h.2) (by omega) most cb (fun h => by have := h.2; omega) (by omega) hm many hn0 hn1 hbs).mono ?_
      rintro x w3 ⟨A, c, rfl, h1, h2, h3, h4⟩
      have HE : Hid (∃ A' c', Ending.returned (Value.slice A (rList (rU most) true bs 0 many).1.length c) = .returned (.slice A' (rList (rU most) true bs 0 many).1.length c') ∧ (rList (rU most) true bs 0 many).1.length ≤ c' ∧ (Kd.int .u64).C w3 (fun b => w.heap.size ≤ b) A' (rList (rU most) true bs 0 many).1 ∧
          IsRd w3 ok (some ⟨g, 0, none⟩) true (rList (rU most) true bs 0 many).2.1 (rList (rU most) true bs 0 many).2.2 ∧ Chg (At (some ⟨g, 0, none⟩)) w w3) :=
        ⟨A, c, rfl, h1, Kd.C_mono h2 (fun b hb => by omega), .inl ⟨g, rfl, h3.mono (fun b hb => hb.1)⟩, (Chg.ofNew hc1).trans h4 (fun b hb => .inl hb)⟩
      clear h1 h2 h3 h4 HI HA HA1
      go_wp2
      go_ret
      exact HE.out
    · cases h
  · have hb : (mk && decide (e = 0)) = false := by
      cases mk <;> simp_all
    have HR : Hid (rList (rU most) mk bs e many = ([], bs, e)) := by show _ = _; rw [rList, if_neg hst]
    clear h
    go_enter Try.func23, Try.ntmps23
    go_wp2_with fail
    have hc1 : Chg nob w ((w.alloc (.cells #[.pointer p] 42)).alloc (.cells #[.int .u64 most] 23)) := ((Chg.refl _ _).alloc _).alloc _
    refine (rd_stands (HI.out.new hc1)).mono ?_
    rintro x w1 ⟨rfl, rfl⟩
    rw [hb]
    go_wp2
    go_ret
    rw [HR.out]
    exact ⟨none, 0, rfl, Nat.le_refl _, Kd.C_nil _ _ _ _, HI.out.new hc1, hc1.ofNew⟩
end Go.Proofs.Yticbffoclnjciaa
