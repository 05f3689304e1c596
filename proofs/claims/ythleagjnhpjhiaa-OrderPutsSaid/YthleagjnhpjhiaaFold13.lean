import Derived.Test.YthleagjnhpjhiaaFold12
/- What lists of texts and of numbers lay: field.Texts, field.Nums, and the reference's. -/
namespace Go.Proofs.Ythleagjnhpjhiaa
open Go.RowKit
set_option linter.unusedVariables false
def numX (x : Int) : List UInt8 := numB x.toNat
def listB {α : Type} (f : α → List UInt8) (l : List α) : List UInt8 := numB l.length ++ (l.map f).flatten
/-- The first j items, laid behind bytes. -/
def preB {α : Type} (f : α → List UInt8) (bs : List UInt8) (l : List α) (j : Nat) : List UInt8 := bs ++ (numB l.length ++ ((l.take j).map f).flatten)
theorem preB_all {α : Type} (f : α → List UInt8) (bs : List UInt8) (l : List α) : preB f bs l l.length = bs ++ listB f l := by rw [preB, List.take_length, listB]
theorem preB_succ {α : Type} (f : α → List UInt8) (bs : List UInt8) (l : List α) (j : Nat) (x : α) (hx : l[j]? = some x) : preB f bs l (j + 1) = preB f bs l j ++ f x := by
  rw [preB, preB, List.take_add_one, hx]
  simp [List.append_assoc]
theorem preB_le {α : Type} (f : α → List UInt8) (bs : List UInt8) (l : List α) (j : Nat) (x : α) (hx : l[j]? = some x) : (preB f bs l j).length + (f x).length ≤ (bs ++ listB f l).length := by
  have h1 : (preB f bs l (j + 1)).length ≤ (bs ++ listB f l).length := by
    rw [← preB_all]
    unfold preB
    simp only [List.length_append]
    have h2 : ((l.take (j + 1)).map f).flatten.length ≤ ((l.take l.length).map f).flatten.length := by
      rw [List.take_length]
      have h3 : (l.map f).flatten = ((l.take (j + 1)).map f).flatten ++ ((l.drop (j + 1)).map f).flatten := by
        rw [← List.flatten_append, ← List.map_append, List.take_append_drop]
      rw [h3, List.length_append]
      omega
    omega
  rw [preB_succ f bs l j x hx, List.length_append] at h1
  exact h1

set_option maxHeartbeats 2000000 in
theorem field_list_texts {w : World} {ok ok2 : Nat → Prop} {A B : Option Addr} {m c d : Nat} {bs : List UInt8} {l : List ByteArray} (hb : Kd.byte.C w ok A bs) (hm : bs.length = m) (hl : Kd.string.C w ok2 B l) (hn : l.length = d)
    (hsz : (bs ++ listB txtB l).length ≤ 1000000000) (e : Nat) :
    Calls Try.prog 82 #[.slice A m c, .slice B d e, .func (.func 57) #[] #[]] w (Laid w (bs ++ listB txtB l)) := by
  have HM := Lib.hid hm
  have HN := Lib.hid hn
  have hm2 : m ≤ 1000000000 := by rw [List.length_append] at hsz; omega
  have hs := hl.small
  rw [hn] at hs
  have HSZ := Lib.hid hsz
  have hdl : d ≤ 1000000000 := by
    have h1 : l.length ≤ (listB txtB l).length := by
      have : ∀ l : List ByteArray, l.length ≤ (l.map txtB).flatten.length := by
        intro l
        induction l with
        | nil => simp
        | cons x l ih =>
          simp only [List.map_cons, List.flatten_cons, List.length_append, List.length_cons]
          have h2 : 1 ≤ (txtB x).length := by simp [txtB, numB]; try omega
          omega
      have := this l
      unfold listB
      rw [List.length_append]
      omega
    rw [List.length_append] at hsz
    omega
  clear hm hn hsz
  go_enter Try.func82, Try.ntmps82
  go_wp2_with fail
  refine (field_num hb HM.out hm2 _ (by omega) (by omega)).mono ?_
  intro e1 w1 hL
  obtain ⟨A1, c1, rfl, hl1, hR, hC⟩ := hL.slice
  rw [show ((d : Nat) : Int).toNat = l.length from by rw [Int.toNat_natCast, HN.out]] at hR ⊢
  have hP : bs ++ numB l.length = preB txtB bs l 0 := by simp [preB]
  rw [hP] at hR ⊢
  obtain ⟨q, hq⟩ : ∃ q, (preB txtB bs l 0).length = q := ⟨_, rfl⟩
  rw [hq] at hR ⊢
  have HQ := Lib.hid hq
  clear hP hq hL hl1
  go_wp2
  go_loopw [7, 17] (fun v i wr => ∃ (j q : Nat) (B' : Option Addr) (c' : Nat), v = .slice B' q c' ∧ i = .int .i64 j ∧ j ≤ d ∧ Hid ((preB txtB bs l j).length = q) ∧ Kd.byte.R 5 wr w.heap.size (fun b => w.heap.size ≤ b) (.slice B' q c') (preB txtB bs l j) ∧ Chg nob w wr) (fun _ i _ => d - (intOf i).toNat)
  case atStart => exact ⟨0, q, A1, c1, rfl, rfl, Nat.zero_le _, HQ, hR, hC⟩
  case round =>
    obtain ⟨j, q', B', c', rfl, rfl, hj, HQ', hR2, hC2⟩ := hrel
    have s2 := hC2.size
    clear hR hC HQ
    by_cases hlt : j < d
    · obtain ⟨x, hx⟩ : ∃ x, l[j]? = some x := ⟨_, List.getElem?_eq_getElem (by rw [HN.out]; exact hlt)⟩
      obtain ⟨ad, rfl, _, hcell⟩ := at_scalar (Kd.C_new hl hC2) hx
      have hcell' : wr.cell? (ad.add j) = some (.string x) := hcell
      have hple := preB_le txtB bs l j x hx
      have hss := preB_succ txtB bs l j x hx
      have hq1 : q' + (txtB x).length ≤ 1000000000 := by
        have := HSZ.out
        have := HQ'.out
        omega
      have hsx : x.size ≤ 1000000000 := by
        have h9 : (txtB x).length = (numB x.size).length + x.size := by rw [txtB, List.length_append, strB_len]
        omega
      have HSS := Lib.hid hss
      have HX := Lib.hid hx
      have hCr := (Kd.R_read hR2).1
      have b1 : (0 : Int) ≤ (j : Int) := by omega
      have b2 : (j : Int) < (d : Int) := by omega
      clear hcell hple hss hx
      go_wp2_with fail
      refine (field_text hCr HQ'.out (by omega) x hsx).mono ?_
      intro e2 w3 hL3
      obtain ⟨A3, c3, rfl, _, hR3, hC3⟩ := hL3.slice

      have hEq : preB txtB bs l j ++ txtB x = preB txtB bs l (j + 1) := HSS.out.symm
      rw [show (numB x.size ++ strB x) = txtB x from rfl, hEq] at hR3 ⊢
      obtain ⟨q3, hq3⟩ : ∃ q3, (preB txtB bs l (j + 1)).length = q3 := ⟨_, rfl⟩
      rw [hq3] at hR3 ⊢
      have HQ3 := Lib.hid hq3
      have hR4 := byte_ge (Kd.R_lower hR3 s2)
      have hC4 := hC2.thenNew hC3
      clear hL3 hR3 hC3 hR2 hC2 hEq hq3
      go_wp2
      go_roundw
      case rel => exact ⟨j + 1, q3, A3, c3, rfl, by go_num, by omega, HQ3, hR4, hC4⟩
      case measure => simp [intOf]; omega
    · obtain rfl : j = d := by omega
      have HE : Hid (Laid w (bs ++ listB txtB l) (.returned (.slice B' q' c')) wr) := by
        rw [← preB_all, HN.out]
        exact Laid.of hR2 (Nat.le_refl _) hC2
      clear hR2
      go_wp2
      go_ret
      exact HE.out
set_option maxHeartbeats 1000000 in
theorem field_texts {w : World} {ok ok2 : Nat → Prop} {A B : Option Addr} {m c d : Nat} {bs : List UInt8} {l : List ByteArray} (hb : Kd.byte.C w ok A bs) (hm : bs.length = m) (hl : Kd.string.C w ok2 B l) (hn : l.length = d)
    (hsz : (bs ++ listB txtB l).length ≤ 1000000000) (e : Nat) :
    Calls Try.prog 63 #[.slice A m c, .slice B d e] w (Laid w (bs ++ listB txtB l)) := by
  have H := Lib.hid (field_list_texts (c := c) hb hm hl hn hsz)
  clear hb hm hl hn hsz
  go_enter Try.func63, Try.ntmps63
  go_wp2_with fail
  refine (H.out e).mono ?_
  intro e1 w1 hL
  have HE := Lib.hid hL
  obtain ⟨v, rfl, _⟩ := hL
  go_wp2
  go_ret
  exact HE.out
set_option maxHeartbeats 2000000 in
theorem ref_texts {w : World} {ok2 : Nat → Prop} {B : Option Addr} {d : Nat} {l : List ByteArray} (hl : Kd.string.C w ok2 B l) (hn : l.length = d)
    (hsz : (listB txtB l).length ≤ 1000000000) (hdl : d ≤ 1000000000) (e : Nat) :
    Calls Try.prog 40 #[.slice B d e] w (Laid w (listB txtB l)) := by
  have HN := Lib.hid hn
  have HSZ := Lib.hid hsz
  clear hn hsz
  go_enter Try.func40, Try.ntmps40
  go_wp2_with fail
  refine (ref_num _ (by omega) (by omega)).mono ?_
  intro e1 w1 hL
  obtain ⟨A1, c1, rfl, hl1, hR, hC⟩ := hL.slice
  rw [show ((d : Nat) : Int).toNat = l.length from by rw [Int.toNat_natCast, HN.out]] at hR ⊢
  have hP : numB l.length = preB txtB [] l 0 := by simp [preB]
  rw [hP] at hR ⊢
  obtain ⟨q, hq⟩ : ∃ q, (preB txtB [] l 0).length = q := ⟨_, rfl⟩
  rw [hq] at hR ⊢
  have HQ := Lib.hid hq
  clear hP hq hL hl1
  go_wp2
  go_loopw [3, 4] (fun v i wr => ∃ (j q : Nat) (B' : Option Addr) (c' : Nat), v = .slice B' q c' ∧ i = .int .i64 j ∧ j ≤ d ∧ Hid ((preB txtB [] l j).length = q) ∧ Kd.byte.R 5 wr w.heap.size (fun b => w.heap.size ≤ b) (.slice B' q c') (preB txtB [] l j) ∧ Chg nob w wr) (fun _ i _ => d - (intOf i).toNat)
  case atStart => exact ⟨0, q, A1, c1, rfl, rfl, Nat.zero_le _, HQ, hR, hC⟩
  case round =>
    obtain ⟨j, q', B', c', rfl, rfl, hj, HQ', hR2, hC2⟩ := hrel
    have s2 := hC2.size
    clear hR hC HQ
    by_cases hlt : j < d
    · obtain ⟨x, hx⟩ : ∃ x, l[j]? = some x := ⟨_, List.getElem?_eq_getElem (by rw [HN.out]; exact hlt)⟩
      obtain ⟨ad, rfl, _, hcell⟩ := at_scalar (Kd.C_new hl hC2) hx
      have hcell' : wr.cell? (ad.add j) = some (.string x) := hcell
      have hple := preB_le txtB [] l j x hx
      have hss := preB_succ txtB [] l j x hx
      have hq1 : q' + (txtB x).length ≤ 1000000000 := by
        have := HSZ.out
        have := HQ'.out
        rw [List.nil_append] at hple
        omega
      have hsx : x.size ≤ 1000000000 := by
        have h9 : (txtB x).length = (numB x.size).length + x.size := by rw [txtB, List.length_append, strB_len]
        omega
      have HSS := Lib.hid hss
      have HX := Lib.hid hx
      have b1 : (0 : Int) ≤ (j : Int) := by omega
      have b2 : (j : Int) < (d : Int) := by omega
      clear hcell hple hss hx
      go_wp2_with fail
      refine (ref_text x hsx).mono ?_
      intro e2 w3 hL3
      obtain ⟨A3, c3, rfl, _, hR3, hC3⟩ := hL3.slice

      rw [show (numB x.size ++ strB x) = txtB x from rfl] at hR3 ⊢
      obtain ⟨q3, hq3⟩ : ∃ q3, (txtB x).length = q3 := ⟨_, rfl⟩
      rw [hq3] at hR3 hq1 ⊢
      have HQ3 := Lib.hid hq3
      have hR5 := Kd.R_new hR2 hC3
      have hCx := (Kd.R_read hR3).1
      have s3 := (hC2.thenNew hC3).size
      have hC4 := hC2.thenNew hC3
      clear hL3 hR3 hq3 hR2 hC2 hC3
      go_wp2_with (at_builtin; refine wp_appB rfl _ _ rfl w.heap.size (fun b => w.heap.size ≤ b) _ (.slice B' q' c') (preB txtB [] l j) (txtB x) A3 q3 _ rfl rfl HQ3.out hR5 hCx s3 (q' + q3) ?_ ?_ ?_)
      · rw [HQ'.out]
      · omega
      intro A5 c5 w5 hR6 hC6 _
      have hR7 : Kd.byte.R 5 w5 w.heap.size (fun b => w.heap.size ≤ b) (.slice A5 (q' + q3) c5) (preB txtB [] l (j + 1)) := by
        rw [HSS.out]
        exact byte_ge hR6
      have HQ5 : Hid ((preB txtB [] l (j + 1)).length = q' + q3) := by show _ = _; rw [HSS.out, List.length_append, HQ'.out, HQ3.out]
      have hC7 := hC4.trans hC6 (fun b hb => .inr (Kd.R_own hR5 b hb.symm).1)
      clear hR6 hC6 hR5 hC4 hCx HSS
      go_wp2
      go_roundw
      case rel => exact ⟨j + 1, q' + q3, A5, c5, rfl, by go_num, by omega, HQ5, hR7, hC7⟩
      case measure => simp [intOf]; omega
    · obtain rfl : j = d := by omega
      have HE : Hid (Laid w (listB txtB l) (.returned (.slice B' q' c')) wr) := by
        have h1 := preB_all txtB [] l
        rw [List.nil_append] at h1
        rw [← h1, HN.out]
        exact Laid.of hR2 (Nat.le_refl _) hC2
      clear hR2
      go_wp2
      go_ret
      exact HE.out

end Go.Proofs.Ythleagjnhpjhiaa
