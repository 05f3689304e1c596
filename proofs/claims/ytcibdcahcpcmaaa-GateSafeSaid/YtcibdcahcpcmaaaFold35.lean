import Derived.Test.YtcibdcahcpcmaaaFold33
import Derived.Test.YtcibdcahcpcmaaaFold34
import Derived.Test.YtcibdcahcpcmaaaFold22
/- Tokens: the reference's Read: its blocks, its steps. -/
namespace Go.Proofs.Ytcibdcahcpcmaaa
open Go.RowKit
set_option maxRecDepth 100000
set_option linter.unusedVariables false
set_option linter.unusedSimpArgs false
/-- The reader in g, the token in tb, the result's place rb. -/
structure RfSt (w0 : World) (g tb rb : Nat) (T : Tok) (bs : List UInt8) (e : Nat) (w : World) : Prop where
  ref : IsRef w (fun b => b < w0.heap.size) g bs e
  tok : w.heap[tb]? = some (.cells (tokV T) 45 (0, 0))
  res : w.heap[rb]? = some (.cells (tokV zeroT) 45 (0, 0))
  ne : g ≠ tb ∧ g ≠ rb ∧ tb ≠ rb ∧ w0.heap.size ≤ g ∧ w0.heap.size ≤ tb ∧ w0.heap.size ≤ rb
  chg : Chg nob w0 w
section
variable {w0 w w' : World} {g tb rb : Nat} {T T' : Tok} {bs bs' : List UInt8} {e e' : Nat}
theorem RfSt.read (h : RfSt w0 g tb rb T bs e w) (hd : IsRef w' (fun b => b < w0.heap.size) g bs' e') (hc : Chg (At (some ⟨g, 0, none⟩)) w w') : RfSt w0 g tb rb T bs' e' w' := by
  obtain ⟨n1, n2, n3, n4, n5, n6⟩ := h.ne
  have hag : ∀ k, At (some ⟨g, 0, none⟩) k → k = g := fun k hk => by cases hk; rfl
  exact ⟨hd, hc.heap h.tok (fun e => n1 (hag _ e).symm), hc.heap h.res (fun e => n2 (hag _ e).symm), h.ne, h.chg.trans hc (fun i hi => .inr (by rw [hag i hi]; exact n4))⟩
theorem RfSt.put (h : RfSt w0 g tb rb T bs e w) (j : Nat) (v : Value) (hv : (tokV T).setIfInBounds j v = tokV T') : RfSt w0 g tb rb T' bs e (w.setCell ⟨tb, j, none⟩ v) := by
  obtain ⟨n1, n2, n3, n4, n5, n6⟩ := h.ne
  have hc : Chg (fun b => b = tb) w (w.setCell ⟨tb, j, none⟩ v) := Chg.set1 (Chg.refl _ w) _ _
  refine ⟨h.ref.chg hc n1 (fun b hb e => by omega), ?_, hc.heap h.res (fun e => n3 e.symm), h.ne, h.chg.setCell (.inr n5) _⟩
  rw [← hv]
  simp [World.setCell, Array.getElem?_modify, h.tok]
theorem RfSt.new (h : RfSt w0 g tb rb T bs e w) (hc : Chg nob w w') : RfSt w0 g tb rb T bs e w' :=
  ⟨h.ref.new hc, hc.heap h.tok (not_nob _), hc.heap h.res (not_nob _), h.ne, h.chg.thenNew hc⟩
end
theorem tr_read_few {w : World} {A : Option Addr} {m c : Nat} (hm : m < 8) :
    Calls Try.prog 24 #[.slice A m c] w fun e w' => Chg nob w w' ∧ e = .returned (.tuple #[.agg (tokV zeroT), .int .i64 40]) := by
  have b1 : (m : Int) < 8 := by omega
  have hrow := heap_alloc_new w (.cells (tokV zeroT) 45)
  have hchg : Chg nob w (w.alloc (.cells (tokV zeroT) 45)) := (Chg.refl _ _).alloc _
  obtain ⟨⟨q0, q1, q2, q3⟩, _⟩ := row4_cells hrow
  go_enter Try.func24, Try.ntmps24
  go_wp2
  change bodyPost _ _ _ _ _ (w.alloc (.cells (tokV zeroT) 45))
  generalize w.alloc (.cells (tokV zeroT) 45) = w9 at q0 q1 q2 q3 hchg ⊢
  refine bodyPost_ret (by simp [results, Try.results24, go_sem, q0, q1, q2, q3]; rfl) rfl ?_
  exact ⟨hchg, rfl⟩
theorem rf_start {w : World} {A : Option Addr} {p c : Nat} {bs : List UInt8} (hb : Kd.byte.C w (fun b => b < w.heap.size) A bs) (hm : bs.length = p) (hpc : p ≤ c) :
    RfSt w (w.heap.size + 1) (w.heap.size + 2) w.heap.size zeroT bs 0 (((w.alloc (.cells (tokV zeroT) 45)).alloc (.cells #[.slice A p c, .int .i64 0] 104)).alloc (.cells (tokV zeroT) 45)) := by
  have a1 := heap_alloc_new w (.cells (tokV zeroT) 45)
  have a2 := alloc2_row0 w (.cells (tokV zeroT) 45) (.cells #[.slice A p c, .int .i64 0] 104)
  obtain ⟨w1, hw1⟩ : ∃ w1, w1 = w.alloc (.cells (tokV zeroT) 45) := ⟨_, rfl⟩
  obtain ⟨w2, hw2⟩ : ∃ w2, w2 = w1.alloc (.cells #[.slice A p c, .int .i64 0] 104) := ⟨_, rfl⟩
  have c1 : Chg nob w w1 := by rw [hw1]; exact (Chg.refl _ _).alloc _
  have c2 : Chg nob w1 w2 := by rw [hw2]; exact (Chg.refl _ _).alloc _
  have c3 : Chg nob w2 (w2.alloc (.cells (tokV zeroT) 45)) := (Chg.refl _ _).alloc _
  rw [← hw1] at a1 a2 ⊢
  rw [← hw2] at a2 ⊢
  have z2 : w2.heap.size = w.heap.size + 2 := by rw [hw2, hw1]; simp
  have a3 := heap_alloc_new w2 (.cells (tokV zeroT) 45)
  rw [z2] at a3
  subst hm
  exact ⟨⟨by omega, A, c, c3.heap a2 (not_nob _), hpc, Kd.C_new hb ((c1.thenNew c2).thenNew c3)⟩, a3, c3.heap (c2.heap a1 (not_nob _)) (not_nob _), by omega, (c1.thenNew c2).thenNew c3⟩
end Go.Proofs.Ytcibdcahcpcmaaa

/- Tokens: the reference's Read: the walk. -/
namespace Go.Proofs.Ytcibdcahcpcmaaa
open Go.RowKit
set_option maxRecDepth 100000
set_option linter.unusedVariables false
set_option linter.unusedSimpArgs false
theorem RfSt.cells {w0 w : World} {g tb rb : Nat} {T : Tok} {bs : List UInt8} {e : Nat} (h : RfSt w0 g tb rb T bs e w) : w.cell? ⟨tb, 0, none⟩ = some (.string T.1) ∧ w.cell? ⟨tb, 1, none⟩ = some (.int .i64 T.2.1) ∧ w.cell? ⟨tb, 2, none⟩ = some (.int .u32 T.2.2.1) ∧ w.cell? ⟨tb, 3, none⟩ = some (.int .u64 T.2.2.2) := t_cells h.tok
theorem RfSt.loose {w0 w : World} {g tb rb : Nat} {T : Tok} {bs : List UInt8} {e : Nat} (h : RfSt w0 g tb rb T bs e w) (j : Nat) : w.frozen? ⟨tb, j, none⟩ = false := by simp [World.frozen?, h.tok]
set_option maxRecDepth 100000 in
set_option maxHeartbeats 4000000 in
theorem tr_read {w : World} {A : Option Addr} {p c : Nat} {bs : List UInt8} (hb : Kd.byte.C w (fun b => b < w.heap.size) A bs) (hm : bs.length = p + 8) (hmc : p + 8 ≤ c) (hl : p + 8 ≤ 140737488351232) :
    Calls Try.prog 24 #[.slice A (p + 8) c] w fun e w' => Chg nob w w' ∧
      ((∃ T, readTok (bs.take p) = some T ∧ e = .returned (.tuple #[.agg (tokV T), .int .i64 0])) ∨ (readTok (bs.take p) = none ∧ e = .returned (.tuple #[.agg (tokV zeroT), .int .i64 40]))) := by
  rw [← refTok_eq]
  have hst : RfSt w (w.heap.size + 1) (w.heap.size + 1 + 1) w.heap.size zeroT (bs.take p) 0 _ := rf_start (p := p) (c := c) (Kd.C_take hb p (by omega)) (by rw [List.length_take]; omega) (by omega)
  have g1 : (0 : Int) ≤ (p : Int) := by omega
  have g2 : (p : Int) ≤ (c : Int) := by omega
  have g3 : ¬ (p : Int) + 8 < 8 := by omega
  have HL0 : Hid (tokV zeroT = #[.string (ByteArray.mk #[]), .int .i64 0, .int .u32 0, .int .u64 0]) := rfl
  obtain ⟨B, hB⟩ : ∃ B, bs.take p = B := ⟨_, rfl⟩
  rw [hB] at hst ⊢
  clear hb hm hB
  go_enter Try.func24, Try.ntmps24
  go_wp2_with fail
  refine (rr_text hst.ref 80 (by decide) (by decide)).mono ?_
  rintro e w2 ⟨rfl, hd, hc⟩
  have hsz : ((rText true B 0 80).1).size ≤ 80 := rText_size true B 0 80
  obtain ⟨s1, b1, e1, hr⟩ : ∃ s' bs' e', rText true B 0 80 = (s', bs', e') := ⟨_, _, _, rfl⟩
  have HR1 := Lib.hid hr
  rw [hr] at hd hsz ⊢
  have h2 := hst.read hd hc
  simp only at h2 hsz ⊢
  generalize w.heap.size + 1 + 1 = tb at h2 ⊢
  generalize w.heap.size + 1 = g at h2 ⊢
  clear hst hd hc
  obtain ⟨c0, c1, c2, c3⟩ := h2.cells
  have f0 := h2.loose 0
  have h3 := h2.put (T' := (s1, 0, 0, 0)) 0 (.string s1) rfl
  have H3 := Lib.hid h3
  clear h2 h3 hr
  go_wp2_with fail
  refine (rr_num H3.out.ref 255 (by decide)).mono ?_
  rintro e w3 ⟨rfl, hd, hc⟩
  have hn1 := rNum_le true b1 e1 255
  obtain ⟨n1, b2, e2, hr⟩ : ∃ s' bs' e', rNum true b1 e1 255 = (s', bs', e') := ⟨_, _, _, rfl⟩
  have HR2 := Lib.hid hr
  rw [hr] at hd hn1 ⊢
  have h2 := H3.out.read hd hc
  simp only at h2 hn1 ⊢
  clear hd hc c0 c1 c2 c3 f0
  have wn : IntKind.i64.wrap (n1 : Int) = (n1 : Int) := IntWalk.i64_in _ (by omega)
  obtain ⟨c0, c1, c2, c3⟩ := h2.cells
  have f0 := h2.loose 1
  have h3 := h2.put (T' := (s1, n1, 0, 0)) 1 (.int .i64 n1) rfl
  have H4 := Lib.hid h3
  clear h2 h3 hr H3
  go_wp2_with fail
  refine (rr_num H4.out.ref 4294967295 (by decide)).mono ?_
  rintro e w4 ⟨rfl, hd, hc⟩
  have hn2 := rNum_le true b2 e2 4294967295
  obtain ⟨n2, b3, e3, hr⟩ : ∃ s' bs' e', rNum true b2 e2 4294967295 = (s', bs', e') := ⟨_, _, _, rfl⟩
  have HR3 := Lib.hid hr
  rw [hr] at hd hn2 ⊢
  have h2 := H4.out.read hd hc
  simp only at h2 hn2 ⊢
  clear hd hc c0 c1 c2 c3 f0 wn
  have wn : IntKind.u32.wrap (n2 : Int) = (n2 : Int) := IntWalk.u32_in _ (by omega)
  obtain ⟨c0, c1, c2, c3⟩ := h2.cells
  have f0 := h2.loose 2
  have h3 := h2.put (T' := (s1, n1, n2, 0)) 2 (.int .u32 n2) rfl
  have H5 := Lib.hid h3
  clear h2 h3 hr H4
  go_wp2_with fail
  refine (rr_num H5.out.ref 18446744073709551615 (by decide)).mono ?_
  rintro e w5 ⟨rfl, hd, hc⟩
  obtain ⟨n3, b4, e4, hr⟩ : ∃ s' bs' e', rNum true b3 e3 18446744073709551615 = (s', bs', e') := ⟨_, _, _, rfl⟩
  have HR4 := Lib.hid hr
  rw [hr] at hd ⊢
  have h2 := H5.out.read hd hc
  simp only at h2 ⊢
  clear hd hc c0 c1 c2 c3 f0 wn
  obtain ⟨c0, c1, c2, c3⟩ := h2.cells
  have f0 := h2.loose 3
  have h3 := h2.put (T' := (s1, n1, n2, n3)) 3 (.int .u64 n3) rfl
  have H6 := Lib.hid h3
  clear h2 h3 hr H5
  have HV : Hid (refTok B = if rDone b4 e4 = 0 ∧ tokOk s1 n1 = true then some (s1, n1, n2, n3) else none) := by
    show _ = _
    rw [refTok, HR1.out]
    simp only [HR2.out, HR3.out, HR4.out]
  clear HR1 HR2 HR3 HR4
  go_wp2_with fail
  refine (rr_done H6.out.ref).mono ?_
  rintro e w6 ⟨rfl, rfl⟩
  generalize World.setCell w5 _ _ = w7 at H6 ⊢
  clear c0 c1 c2 c3 f0
  obtain ⟨c0, c1, c2, c3⟩ := H6.out.cells
  by_cases hdn : rDone b4 e4 = 0
  · rw [hdn]
    simp only [hdn, true_and] at HV
    have HDN := Lib.hid hdn
    clear hdn
    go_wp2_with fail
    refine (tr_right s1 (by omega) n1 n2 n3).mono ?_
    rintro e w8 ⟨rfl, hc⟩
    have H8 := Lib.hid (H6.out.new hc)
    clear c0 c1 c2 c3 hc H6
    obtain ⟨c0, c1, c2, c3⟩ := H8.out.cells
    obtain ⟨⟨r0, r1, r2, r3⟩, rf⟩ := row4_cells H8.out.res
    have rf0 := rf 0
    have rf1 := rf 1
    have rf2 := rf 2
    have rf3 := rf 3
    clear rf
    by_cases hok : tokOk s1 n1 = true
    · rw [if_pos hok] at HV
      rw [hok]
      clear hok
      have HROW := Lib.hid (set4_row H8.out.res (.string s1) (.int .i64 n1) (.int .u32 n2) (.int .u64 n3))
      have HCHG := Lib.hid (set4_chg H8.out.chg (r := w.heap.size) (.inr (Nat.le_refl _)) (.string s1) (.int .i64 n1) (.int .u32 n2) (.int .u64 n3))
      go_wp2
      have hrow := HROW.out
      have hchg := HCHG.out
      unfold set4 at hrow hchg
      generalize (World.setCell _ (⟨w.heap.size, 3, none⟩ : Addr) _) = w9 at hrow hchg ⊢
      obtain ⟨⟨q0, q1, q2, q3⟩, _⟩ := row4_cells hrow
      refine bodyPost_ret (by simp [results, Try.results24, go_sem, q0, q1, q2, q3]; rfl) rfl ?_
      exact ⟨hchg, .inl ⟨_, HV.out, rfl⟩⟩
    · rw [if_neg hok] at HV
      rw [show tokOk s1 n1 = false from by simpa using hok]
      clear hok
      have HROW := Lib.hid (set4_row H8.out.res (.string (ByteArray.mk #[])) (.int .i64 0) (.int .u32 0) (.int .u64 0))
      have HCHG := Lib.hid (set4_chg H8.out.chg (r := w.heap.size) (.inr (Nat.le_refl _)) (.string (ByteArray.mk #[])) (.int .i64 0) (.int .u32 0) (.int .u64 0))
      go_wp2
      have hrow := HROW.out
      have hchg := HCHG.out
      unfold set4 at hrow hchg
      generalize (World.setCell _ (⟨w.heap.size, 3, none⟩ : Addr) _) = w9 at hrow hchg ⊢
      obtain ⟨⟨q0, q1, q2, q3⟩, _⟩ := row4_cells hrow
      refine bodyPost_ret (by simp [results, Try.results24, go_sem, q0, q1, q2, q3]; rfl) rfl ?_
      exact ⟨hchg, .inr ⟨HV.out, rfl⟩⟩
  · rw [if_neg (fun h => hdn h.1)] at HV
    have hbd : ((rDone b4 e4 : Nat) : Int) ≠ 0 := by omega
    obtain ⟨⟨r0, r1, r2, r3⟩, rf⟩ := row4_cells H6.out.res
    have rf0 := rf 0
    have rf1 := rf 1
    have rf2 := rf 2
    have rf3 := rf 3
    generalize rDone b4 e4 = dn at hbd hdn ⊢
    have hbq : ((dn : Int) == 0) = false := by simp; omega
    have HROW := Lib.hid (set4_row H6.out.res (.string (ByteArray.mk #[])) (.int .i64 0) (.int .u32 0) (.int .u64 0))
    have HCHG := Lib.hid (set4_chg H6.out.chg (r := w.heap.size) (.inr (Nat.le_refl _)) (.string (ByteArray.mk #[])) (.int .i64 0) (.int .u32 0) (.int .u64 0))
    clear rf hdn
    go_wp2
    have hrow := HROW.out
    have hchg := HCHG.out
    unfold set4 at hrow hchg
    generalize (World.setCell _ (⟨w.heap.size, 3, none⟩ : Addr) _) = w9 at hrow hchg ⊢
    obtain ⟨⟨q0, q1, q2, q3⟩, _⟩ := row4_cells hrow
    refine bodyPost_ret (by simp [results, Try.results24, go_sem, q0, q1, q2, q3]; rfl) rfl ?_
    exact ⟨hchg, .inr ⟨HV.out, rfl⟩⟩
end Go.Proofs.Ytcibdcahcpcmaaa

/- The key's block, and the bytes, while sums are taken. -/
namespace Go.Proofs.Ytcibdcahcpcmaaa
open Go.RowKit
set_option maxRecDepth 100000
set_option linter.unusedVariables false
theorem row2_cells {w : World} {g t : Nat} {a b : Value} (h : w.heap[g]? = some (.cells #[a, b] t (0, 0))) : w.cell? ⟨g, 0, none⟩ = some a ∧ w.cell? ⟨g, 1, none⟩ = some b :=
  ⟨by rw [cell_of_row w g 0 _ _ _ h]; rfl, by rw [cell_of_row w g 1 _ _ _ h]; rfl⟩
/-- The key, in block n; the bytes. -/
structure KeySt (w0 : World) (n k0 k1 : Nat) (A : Option Addr) (bs : List UInt8) (w : World) : Prop where
  c : w.cell? ⟨n, 0, none⟩ = some (.int .u64 k0) ∧ w.cell? ⟨n, 1, none⟩ = some (.int .u64 k1)
  b : Kd.byte.C w (fun b => b < w0.heap.size) A bs
  chg : Chg nob w0 w
section
variable {w0 w w' : World} {n k0 k1 : Nat} {A : Option Addr} {bs : List UInt8}
theorem KeySt.new (h : KeySt w0 n k0 k1 A bs w) (hc : Chg nob w w') : KeySt w0 n k0 k1 A bs w' :=
  ⟨⟨hc.cell h.c.1 (not_nob _), hc.cell h.c.2 (not_nob _)⟩, Kd.C_new h.b hc, h.chg.thenNew hc⟩
theorem KeySt.lt (h : KeySt w0 n k0 k1 A bs w) : ∀ b, b < w0.heap.size → b < w.heap.size := fun b hb => Nat.lt_of_lt_of_le hb h.chg.size
theorem key_start {w : World} (t k0 k1 : Nat) {A : Option Addr} {bs : List UInt8} (hb : Kd.byte.C w (fun b => b < w.heap.size) A bs) : KeySt w w.heap.size k0 k1 A bs (w.alloc (.cells #[.int .u64 k0, .int .u64 k1] t)) :=
  ⟨row2_cells (heap_alloc_new w _), Kd.C_new hb ((Chg.refl _ _).alloc _), (Chg.refl _ _).alloc _⟩
theorem key_sum (h : KeySt w0 n k0 k1 A bs w) (h0 : k0 < 18446744073709551616) (h1 : k1 < 18446744073709551616) {m c : Nat} (hm : bs.length = m) (hmc : m ≤ c) :
    Calls Try.prog 62 #[.agg #[.int .u64 k0, .int .u64 k1], .slice A m c] w fun e w' => e = .returned (.int .u64 (sumN k0 k1 bs)) ∧ KeySt w0 n k0 k1 A bs w' :=
  (s_sum h0 h1 h.b h.lt hm hmc).mono fun e w' ⟨he, hc⟩ => ⟨he, h.new hc⟩
theorem key_rsum (h : KeySt w0 n k0 k1 A bs w) (h0 : k0 < 18446744073709551616) (h1 : k1 < 18446744073709551616) {m c : Nat} (hm : bs.length = m) (hl : m ≤ 140737488351232) :
    Calls Try.prog 49 #[.int .u64 k0, .int .u64 k1, .slice A m c] w fun e w' => e = .returned (.int .u64 (sumN k0 k1 bs)) ∧ KeySt w0 n k0 k1 A bs w' :=
  (r_sum h0 h1 h.b h.lt hm hl).mono fun e w' ⟨he, hc⟩ => ⟨he, h.new hc⟩
end
end Go.Proofs.Ytcibdcahcpcmaaa
