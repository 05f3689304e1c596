/- Messages: what a call of word, small, items, take reads. -/
import Derived.Test.YtmahjeafoogamaaSpeechPut
import Derived.Test.YtmahjeafoogamaaReads
namespace Go.Proofs.Ytmahjeafoogamaa
open Go.RowKit
set_option linter.unusedVariables false
set_option linter.unusedSimpArgs false
/-- An update, read. -/
def rUpd (bs : List UInt8) (e : Nat) : Upd × List UInt8 × Nat :=
  let a := rNum true bs e 255
  let b := rNum true a.2.1 a.2.2 4294967295
  let c := rNum true b.2.1 b.2.2 255
  (((a.1 : Int), (b.1 : Int), (c.1 : Int)), c.2)
def rUps (bs : List UInt8) (e : Nat) : List Upd × List UInt8 × Nat := rItems rUpd (rNum true bs e 16).1 (rNum true bs e 16).2.1 (rNum true bs e 16).2.2
/-- A field into a message. -/
def takeF (s : Ms × List UInt8 × Nat) (f : Int) : Ms × List UInt8 × Nat :=
  if f = 0 then ((s.1.1, ((rNum true s.2.1 s.2.2 4294967295).1 : Int), s.1.2.2), (rNum true s.2.1 s.2.2 4294967295).2)
  else if f = 1 then ((s.1.1, s.1.2.1, ((rNum true s.2.1 s.2.2 255).1 : Int), s.1.2.2.2), (rNum true s.2.1 s.2.2 255).2)
  else if f = 2 then ((s.1.1, s.1.2.1, s.1.2.2.1, ((rNum true s.2.1 s.2.2 255).1 : Int), s.1.2.2.2.2), (rNum true s.2.1 s.2.2 255).2)
  else if f = 3 then ((s.1.1, s.1.2.1, s.1.2.2.1, s.1.2.2.2.1, (rFlag true s.2.1 s.2.2).1, s.1.2.2.2.2.2), (rFlag true s.2.1 s.2.2).2)
  else ((s.1.1, s.1.2.1, s.1.2.2.1, s.1.2.2.2.1, s.1.2.2.2.2.1, (rUps s.2.1 s.2.2).1), (rUps s.2.1 s.2.2).2)
theorem rNum_le (st : Bool) (bs : List UInt8) (e most : Nat) : (rNum st bs e most).1 ≤ most := by
  unfold rNum
  split
  · split
    · rename_i h
      unfold rNumE at h
      split at h
      · cases h
      · rename_i h2
        simp only
        by_cases h3 : (numAt bs).2.2 = 0
        · omega
        · rw [numAt_err h3]; omega
    · exact Nat.zero_le _
  · exact Nat.zero_le _
theorem rItems_le {α : Type} {f : List UInt8 → Nat → α × List UInt8 × Nat} : ∀ (n : Nat) (bs : List UInt8) (e : Nat), (rItems f n bs e).1.length ≤ n
  | 0, bs, e => by simp [rItems]
  | n + 1, bs, e => by
    unfold rItems
    split
    · have := rItems_le (f := f) n (f bs e).2.1 (f bs e).2.2
      simp only [List.length_cons]
      omega
    · simp
/-- The value of a reader's method Num. -/
abbrev numFn (g : Nat) : Value := .func (.func 44) #[.pointer (some ⟨g, 0, none⟩)] #[]
theorem rd_atI {w : World} {ok : Nat → Prop} {g : Nat} {bs : List UInt8} {e : Nat} (h : IsRd w ok (some ⟨g, 0, none⟩) true bs e) : IsRdAt w ok g true bs e := by
  rcases h with ⟨g', e', h⟩ | ⟨h9, _⟩
  · cases e'; exact h
  · cases h9
theorem s_word {w : World} {ok : Nat → Prop} {g : Nat} {bs : List UInt8} {e : Nat} (h : IsRdAt w ok g true bs e) :
    Calls Try.prog 45 #[numFn g] w fun x w' => x = .returned (.int .u32 ((rNum true bs e 4294967295).1 : Nat)) ∧ IsRdAt w' ok g true (rNum true bs e 4294967295).2.1 (rNum true bs e 4294967295).2.2 ∧ Chg (At (some ⟨g, 0, none⟩)) w w' := by
  have HI : Hid (IsRd w ok (some ⟨g, 0, none⟩) true bs e) := .inl ⟨g, rfl, h⟩
  clear h
  go_enter Try.func45, Try.ntmps45
  go_wp2_with fail
  refine (rd_num HI.out 4294967295 (by omega)).mono ?_
  rintro x w1 ⟨rfl, h1, h2⟩
  have HL := rNum_le true bs e 4294967295
  have H1 := Lib.hid h1
  have H2 := Lib.hid h2
  obtain ⟨N, bs1, e1, hR⟩ : ∃ N bs1 e1, rNum true bs e 4294967295 = (N, bs1, e1) := ⟨_, _, _, rfl⟩
  rw [hR] at H1 HL ⊢
  have HR := Lib.hid hR
  dsimp only at HL H1 ⊢
  clear h1 h2 hR
  have hw : IntKind.u32.wrap (N : Int) = N := Int.emod_eq_of_lt (by omega) (by show (N : Int) < 4294967296; omega)
  go_wp2
  go_ret
  rw [HR.out]
  exact ⟨rfl, rd_atI H1.out, H2.out⟩
theorem s_small {w : World} {ok : Nat → Prop} {g : Nat} {bs : List UInt8} {e : Nat} (h : IsRdAt w ok g true bs e) :
    Calls Try.prog 46 #[numFn g] w fun x w' => x = .returned (.int .i64 ((rNum true bs e 255).1 : Nat)) ∧ IsRdAt w' ok g true (rNum true bs e 255).2.1 (rNum true bs e 255).2.2 ∧ Chg (At (some ⟨g, 0, none⟩)) w w' := by
  have HI : Hid (IsRd w ok (some ⟨g, 0, none⟩) true bs e) := .inl ⟨g, rfl, h⟩
  clear h
  go_enter Try.func46, Try.ntmps46
  go_wp2_with fail
  refine (rd_num HI.out 255 (by omega)).mono ?_
  rintro x w1 ⟨rfl, h1, h2⟩
  have HL := rNum_le true bs e 255
  have H1 := Lib.hid h1
  have H2 := Lib.hid h2
  obtain ⟨N, bs1, e1, hR⟩ : ∃ N bs1 e1, rNum true bs e 255 = (N, bs1, e1) := ⟨_, _, _, rfl⟩
  rw [hR] at H1 HL ⊢
  have HR := Lib.hid hR
  dsimp only at HL H1 ⊢
  clear h1 h2 hR
  have hw : IntKind.i64.wrap (N : Int) = N := IntWalk.i64_in _ (by omega)
  go_wp2
  go_ret
  rw [HR.out]
  exact ⟨rfl, rd_atI H1.out, H2.out⟩
theorem froz {w : World} {g t : Nat} {cs : Array Value} (h : w.heap[g]? = some (.cells cs t (0, 0))) (j : Nat) : w.frozen? ⟨g, j, none⟩ = false := by simp [World.frozen?, h]
theorem set3c0 {w : World} {g t : Nat} {a b c : Value} (x : Value) (h : w.heap[g]? = some (.cells #[a, b, c] t (0, 0))) : (w.setCell ⟨g, 0, none⟩ x).heap[g]? = some (.cells #[x, b, c] t (0, 0)) ∧ (w.setCell ⟨g, 1, none⟩ x).heap[g]? = some (.cells #[a, x, c] t (0, 0)) ∧ (w.setCell ⟨g, 2, none⟩ x).heap[g]? = some (.cells #[a, b, x] t (0, 0)) := by
  refine ⟨?_, ?_, ?_⟩ <;> simp [World.setCell, Array.getElem?_modify, h]
/-- Between two calls of the closure: u: its update's place, r: its result's. -/
structure OneSt (w0 : World) (ok : Nat → Prop) (g b u r : Nat) (bs : List UInt8) (e : Nat) (x y z : Value) (w : World) : Prop where
  rd : IsRdAt w ok g true bs e
  box : w.cell? ⟨b, 0, none⟩ = some (numFn g)
  row : w.heap[u]? = some (.cells #[x, y, z] 62 (0, 0))
  res : w.heap[r]? = some (.cells #[.int .i64 0, .int .u32 0, .int .i64 0] 62 (0, 0))
  chg : Chg (At (some ⟨g, 0, none⟩)) w0 w
  b0 : b < u ∧ b < r ∧ b ≠ g
  u0 : g < u ∧ w0.heap.size ≤ u
  r0 : r < u ∧ w0.heap.size ≤ r ∧ g < r
  oks : ∀ k, ok k → k < w0.heap.size
theorem at_eq {g k : Nat} (h : At (some ⟨g, 0, none⟩) k) : k = g := by cases h; rfl
theorem OneSt.call {w0 : World} {ok : Nat → Prop} {g b u r : Nat} {bs bs' : List UInt8} {e e' : Nat} {x y z : Value} {w w' : World} (h : OneSt w0 ok g b u r bs e x y z w) (hr : IsRdAt w' ok g true bs' e') (hc : Chg (At (some ⟨g, 0, none⟩)) w w') : OneSt w0 ok g b u r bs' e' x y z w' :=
  ⟨hr, hc.cell h.box (fun k => h.b0.2.2 (at_eq k)), hc.heap h.row (fun k => by have := at_eq k; have := h.u0; omega), hc.heap h.res (fun k => by have := at_eq k; have := h.r0; omega), h.chg.trans hc (fun i hi => .inl hi), h.b0, h.u0, h.r0, h.oks⟩
theorem OneSt.set1 {w0 : World} {ok : Nat → Prop} {g b u r : Nat} {bs : List UInt8} {e : Nat} {x y z : Value} {w : World} (h : OneSt w0 ok g b u r bs e x y z w) (v : Value) : OneSt w0 ok g b u r bs e x v z (w.setCell ⟨u, 1, none⟩ v) := by
  have hc : Chg (fun k => k = u) w (w.setCell ⟨u, 1, none⟩ v) := Chg.set1 (Chg.refl _ w) 1 v
  exact ⟨h.rd.chg hc (fun k hk e => by have := h.oks k hk; have := h.u0; omega), hc.cell h.box (fun k => by have : b = u := k; have := h.b0; omega), (set3c0 v h.row).2.1, hc.heap h.res (fun k => by have := h.r0; omega), h.chg.setCell (p := ⟨u, 1, none⟩) (.inr h.u0.2) v, h.b0, h.u0, h.r0, h.oks⟩
theorem OneSt.set2 {w0 : World} {ok : Nat → Prop} {g b u r : Nat} {bs : List UInt8} {e : Nat} {x y z : Value} {w : World} (h : OneSt w0 ok g b u r bs e x y z w) (v : Value) : OneSt w0 ok g b u r bs e x y v (w.setCell ⟨u, 2, none⟩ v) := by
  have hc : Chg (fun k => k = u) w (w.setCell ⟨u, 2, none⟩ v) := Chg.set1 (Chg.refl _ w) 2 v
  exact ⟨h.rd.chg hc (fun k hk e => by have := h.oks k hk; have := h.u0; omega), hc.cell h.box (fun k => by have : b = u := k; have := h.b0; omega), (set3c0 v h.row).2.2, hc.heap h.res (fun k => by have := h.r0; omega), h.chg.setCell (p := ⟨u, 2, none⟩) (.inr h.u0.2) v, h.b0, h.u0, h.r0, h.oks⟩
set_option maxHeartbeats 1000000 in
/-- The closure: an update. b: the box of the method value. -/
theorem s_one {w : World} {ok : Nat → Prop} {g b : Nat} {bs : List UInt8} {e : Nat} (h : IsRdAt w ok g true bs e) (hb : w.cell? ⟨b, 0, none⟩ = some (numFn g)) (hbg : b ≠ g) (hok : ∀ k, ok k → k < w.heap.size) :
    Calls Try.prog 49 #[.pointer (some ⟨b, 0, none⟩)] w fun x w' => x = .returned (.agg #[.int .i64 (rUpd bs e).1.1, .int .u32 (rUpd bs e).1.2.1, .int .i64 (rUpd bs e).1.2.2]) ∧ IsRdAt w' ok g true (rUpd bs e).2.1 (rUpd bs e).2.2 ∧ Chg (At (some ⟨g, 0, none⟩)) w w' := by
  have hag : ∀ k, At (some ⟨g, 0, none⟩) k → k = g := fun k hk => by cases hk; rfl
  have hg := h.lt
  have hbl := World.block_lt_of_cell? w _ hb
  have hc0 := (Chg.refl (At (some ⟨g, 0, none⟩)) w).alloc (.cells #[.int .i64 0, .int .u32 0, .int .i64 0] 62)
  have HH : Hid (IsRdAt (w.alloc (.cells #[.int .i64 0, .int .u32 0, .int .i64 0] 62)) ok g true bs e) := h.chg ((Chg.refl nob w).alloc _) (fun _ _ => not_nob _)
  have HC0 := Lib.hid hc0
  have HB : ∀ wx, Chg (At (some ⟨g, 0, none⟩)) w wx → wx.cell? ⟨b, 0, none⟩ = some (numFn g) := fun wx hc => hc.cell hb (fun e => hbg (hag _ e))
  have HHB := Lib.hid HB
  have hb0 := HB _ hc0
  have HAG := Lib.hid hag
  have HOK := Lib.hid hok
  have hr0 := heap_alloc_new w (.cells #[.int .i64 0, .int .u32 0, .int .i64 0] 62)
  have HR0 := Lib.hid hr0
  obtain ⟨r0, r1, r2⟩ := row3c hr0
  clear h hb HB hag hc0 hok
  go_enter Try.func49, Try.ntmps49
  go_wp2_with fail
  refine (s_small HH.out).mono ?_
  rintro x w1 ⟨rfl, h1, hc1⟩
  obtain ⟨N1, bs1, e1, hR1⟩ : ∃ N bs1 e1, rNum true bs e 255 = (N, bs1, e1) := ⟨_, _, _, rfl⟩
  rw [hR1] at h1 ⊢
  have HR1 := Lib.hid hR1
  dsimp only at h1 ⊢
  have hcA := HC0.out.trans hc1 (fun i hi => .inl hi)
  have hcB := hcA.alloc (.cells #[.int .i64 N1, .int .u32 0, .int .i64 0] 62)
  have hres1 : w1.heap[w.heap.size]? = some (.cells #[.int .i64 0, .int .u32 0, .int .i64 0] 62 (0, 0)) := hc1.heap HR0.out (fun k => by have := HAG.out _ k; omega)
  have hs1 : w.heap.size + 1 ≤ w1.heap.size := by have := hc1.size; simpa using this
  have HS : Hid (OneSt w ok g b w1.heap.size w.heap.size bs1 e1 (.int .i64 N1) (.int .u32 0) (.int .i64 0) (w1.alloc (.cells #[.int .i64 N1, .int .u32 0, .int .i64 0] 62))) :=
    ⟨h1.chg ((Chg.refl nob w1).alloc _) (fun _ _ => not_nob _), HHB.out _ hcB, heap_alloc_new w1 _, ((Chg.refl nob w1).alloc _).heap hres1 (not_nob _), hcB, by omega, by omega, by omega, HOK.out⟩
  clear h1 hc1 hR1 hcA hcB hres1 r0 r1 r2 hb0 hr0 HR0 HC0 HH
  have hbx := HS.out.box
  have hfz : (w1.alloc (.cells #[.int .i64 N1, .int .u32 0, .int .i64 0] 62)).frozen? ⟨w1.heap.size, 1, none⟩ = false := froz HS.out.row _
  go_wp2_with fail
  refine (s_word HS.out.rd).mono ?_
  rintro x w2 ⟨rfl, h2, hc2⟩
  obtain ⟨N2, bs2, e2, hR2⟩ : ∃ N b5 e5, rNum true bs1 e1 4294967295 = (N, b5, e5) := ⟨_, _, _, rfl⟩
  rw [hR2] at h2 ⊢
  have HR2 := Lib.hid hR2
  dsimp only at h2 ⊢
  have HT := Lib.hid (HS.out.call h2 hc2)
  clear h2 hc2 hR2 hbx hfz
  obtain ⟨q0, q1, q2⟩ := row3c HT.out.row
  have hfz : w2.frozen? ⟨w1.heap.size, 1, none⟩ = false := froz HT.out.row _
  have HU := Lib.hid (HT.out.set1 (.int .u32 N2))
  have hbx := HU.out.box
  go_wp2_with fail
  refine (s_small HU.out.rd).mono ?_
  rintro x w3 ⟨rfl, h3, hc3⟩
  obtain ⟨N3, bs3, e3, hR3⟩ : ∃ N b5 e5, rNum true bs2 e2 255 = (N, b5, e5) := ⟨_, _, _, rfl⟩
  rw [hR3] at h3 ⊢
  have HR3 := Lib.hid hR3
  dsimp only at h3 ⊢
  have HV := Lib.hid (HU.out.call h3 hc3)
  clear h3 hc3 hR3 hbx hfz q0 q1 q2
  obtain ⟨q0, q1, q2⟩ := row3c HV.out.row
  have hfz : w3.frozen? ⟨w1.heap.size, 2, none⟩ = false := froz HV.out.row _
  have hq2 := q2
  have HW := Lib.hid (HV.out.set2 (.int .i64 N3))
  obtain ⟨v0, v1, v2⟩ := row3c HV.out.res
  have g0 := froz HV.out.res 0
  have g1 := froz HV.out.res 1
  have g2 := froz HV.out.res 2
  have HP := HW.out.rd
  have HRP : Hid (rUpd bs e = ((((N1 : Int), (N2 : Int), (N3 : Int)) : Upd), bs3, e3)) := by show _ = _; simp only [rUpd, HR1.out, HR2.out, HR3.out]
  go_wp2
  refine bodyPost_ret (by simp [results, Try.results49, go_sem, v0, v1, v2]; rfl) rfl ?_
  rw [HRP.out]
  have hcF := ((HW.out.chg.setCell (p := ⟨w.heap.size, 0, none⟩) (.inr (Nat.le_refl _)) (.int .i64 N1)).setCell (p := ⟨w.heap.size, 1, none⟩) (.inr (Nat.le_refl _)) (.int .u32 N2)).setCell (p := ⟨w.heap.size, 2, none⟩) (.inr (Nat.le_refl _)) (.int .i64 N3)
  have hcG := (((Chg.refl (fun k => k = w.heap.size) (w3.setCell ⟨w1.heap.size, 2, none⟩ (.int .i64 N3))).set1 0 (.int .i64 N1)).set1 1 (.int .u32 N2)).set1 2 (.int .i64 N3)
  exact ⟨rfl, HP.chg hcG (fun k hk e => by have := HOK.out k hk; omega), hcF⟩
theorem updK_flat : updK.Flat := fun h => h
theorem upd_info : (Try.prog.info? 62).map (fun i => (i.zero, i.size, i.bytes)) = some (some (.agg #[.int .i64 0, .int .u32 0, .int .i64 0]), 3, 24) := by kernel_rfl
theorem updK_mk {w : World} {ok : Nat → Prop} (u : Upd) : updK.K w ok u (#[.int .i64 u.1, .int .u32 u.2.1, .int .i64 u.2.2] : Array Value).toList := ⟨[.int .i64 u.1], _, rfl, rfl, [.int .u32 u.2.1], _, rfl, rfl, rfl⟩
section
variable {ops : Array Oper} {Q : Exit → Act → World → Prop} {rest : List Oper} {a : Act} {w : World} {o : Oper}
theorem wp_app1U (hgd : o.guard = none) (s x : Operand) (ho : o.op = .call { callee := .builtin .append, args := #[s, x], argTypes := #[23, 23] })
    (base : Nat) (ok : Nat → Prop) (v : Value) (xs : List Upd) (y : Upd) (hs : a.eval s = v) (hx : a.eval x = .slice (some ⟨w.heap.size, 0, none⟩) 1 1)
    (hr : updK.R 62 w base ok v xs) (hbase : base ≤ w.heap.size) (len : Nat) (hlen : xs.length + 1 = len) (hl : len ≤ 100000000000)
    (h : ∀ A' c' w', updK.R 62 w' base (fun k => some k = (Value.slice A' len c').ownBlock) (.slice A' len c') (xs ++ [y]) → Chg (fun k => some k = v.ownBlock) w w' → ((Value.slice A' len c').ownBlock = v.ownBlock ∨ ∃ k, (Value.slice A' len c').ownBlock = some k ∧ w.heap.size ≤ k) → wpList Try.prog ops Q rest (a.put o.dst (.slice A' len c')) w') :
    wpList Try.prog ops Q (o :: rest) a (w.alloc (.cells #[.int .i64 y.1, .int .u32 y.2.1, .int .i64 y.2.2] 62)) :=
  wp_append1F (d := updK) updK_flat hgd s x 23 ho 62 (.agg #[.int .i64 0, .int .u32 0, .int .i64 0]) 24 Try.underlying23 upd_info rfl base ok (fun _ => False) v xs y #[.int .i64 y.1, .int .u32 y.2.1, .int .i64 y.2.2] hs hx hr (updK_mk y) (by unfold maxLen; omega) (by omega) hbase len hlen h
end
set_option maxHeartbeats 4000000 in
theorem s_items {w : World} {ok : Nat → Prop} {g b : Nat} {bs : List UInt8} {e : Nat} (h : IsRdAt w ok g true bs e) (hb : w.cell? ⟨b, 0, none⟩ = some (numFn g)) (hbg : b ≠ g) (hok : ∀ k, ok k → k < w.heap.size) :
    Calls Try.prog 48 #[.pointer (some ⟨g, 0, none⟩), .int .u64 16, .func (.func 49) #[] #[.pointer (some ⟨b, 0, none⟩)]] w fun x w' =>
      ∃ A c, x = .returned (.slice A (rUps bs e).1.length c) ∧ (rUps bs e).1.length ≤ c ∧ updK.C w' (fun b => w.heap.size ≤ b) A (rUps bs e).1 ∧ IsRdAt w' ok g true (rUps bs e).2.1 (rUps bs e).2.2 ∧ Chg (At (some ⟨g, 0, none⟩)) w w' := by
  have hg := h.lt
  have HI : Hid (IsRd w ok (some ⟨g, 0, none⟩) true bs e) := .inl ⟨g, rfl, h⟩
  have hag : ∀ k, At (some ⟨g, 0, none⟩) k → k = g := fun k hk => at_eq hk
  have hbcell : ∀ wx, Chg (At (some ⟨g, 0, none⟩)) w wx → wx.cell? ⟨b, 0, none⟩ = some (numFn g) := fun wx hc => hc.cell hb (fun e => hbg (hag _ e))
  have HOK := Lib.hid hok
  clear h hb hok
  go_enter Try.func48, Try.ntmps48
  go_wp2_with fail
  refine (rd_num HI.out 16 (by omega)).mono ?_
  rintro x w1 ⟨rfl, h1, hc1⟩
  have hNle := rNum_le true bs e 16
  obtain ⟨N, bs1, e1, hr⟩ : ∃ N bs1 e1, rNum true bs e 16 = (N, bs1, e1) := ⟨_, _, _, rfl⟩
  rw [hr] at h1 hNle ⊢
  dsimp only at hNle h1 ⊢
  have HRL : Hid (rUps bs e = rItems rUpd N bs1 e1) := by show _ = _; simp only [rUps, hr]
  have HA1 := Lib.hid (rd_atI h1)
  clear h1 hr
  go_wp2
  go_loopw [8, 9] (fun v i wr => ∃ (j : Nat) (acc : List Upd) (A : Option Addr) (c : Nat) (bs' : List UInt8) (e' : Nat), v = .slice A j c ∧ i = .int .u64 j ∧ j ≤ N ∧ Hid (acc.length = j ∧ rItems rUpd N bs1 e1 = (acc ++ (rItems rUpd (N - j) bs' e').1, (rItems rUpd (N - j) bs' e').2)) ∧ Hid (IsRdAt wr ok g true bs' e') ∧ updK.R 62 wr w.heap.size (fun b => w.heap.size ≤ b) (.slice A j c) acc ∧ Chg (At (some ⟨g, 0, none⟩)) w wr) (fun _ i _ => N - (intOf i).toNat)
  case atStart => exact ⟨0, [], none, 0, bs1, e1, rfl, rfl, Nat.zero_le _, ⟨rfl, rfl⟩, HA1, Kd.R_nil _ _ _ _ _, hc1⟩
  case round =>
    obtain ⟨j, acc, A, c, bs', e', rfl, rfl, hj, HJ, HA, hR, hC⟩ := hrel
    have s1 := hC.size
    have hstop : ¬ (j < N ∧ e' = 0) → Hid (rItems rUpd N bs1 e1 = (acc, bs', e')) := by
      intro hno
      show _ = _
      rw [HJ.out.2]
      have h6 : rItems rUpd (N - j) bs' e' = ([], bs', e') := by
        by_cases he : e' = 0
        · rw [show N - j = 0 from by omega]; rfl
        · exact rItems_stop he
      rw [h6]
      simp
    have HST := Lib.hid hstop
    have hfin : ¬ (j < N ∧ e' = 0) → ∃ A' c', Value.slice A j c = .slice A' (rUps bs e).1.length c' ∧ (rUps bs e).1.length ≤ c' ∧ updK.C wr (fun b => w.heap.size ≤ b) A' (rUps bs e).1 ∧ IsRdAt wr ok g true (rUps bs e).2.1 (rUps bs e).2.2 ∧ Chg (At (some ⟨g, 0, none⟩)) w wr := by
      intro hno
      have he := (HST.out hno).out
      rw [HRL.out, he]
      obtain ⟨k1, k2, k3⟩ := Kd.R_read hR
      exact ⟨A, c, by rw [k2], by rw [k2]; exact k3, k1, HA.out, hC⟩
    have HFIN := Lib.hid hfin
    clear hstop hfin HST
    by_cases hlt : j < N
    · have b1 : (j : Int) < (N : Int) := by omega
      go_wp2_with fail
      refine (rd_wrong (.inl ⟨g, rfl, HA.out⟩)).mono ?_
      rintro x w2 ⟨rfl, rfl⟩
      by_cases he : e' = 0
      · subst he
        rw [show (((0 : Nat) : Int)) = (0 : Int) from rfl]
        have HN : Hid ((acc ++ [(rUpd bs' 0).1]).length = j + 1 ∧ rItems rUpd N bs1 e1 = ((acc ++ [(rUpd bs' 0).1]) ++ (rItems rUpd (N - (j + 1)) (rUpd bs' 0).2.1 (rUpd bs' 0).2.2).1, (rItems rUpd (N - (j + 1)) (rUpd bs' 0).2.1 (rUpd bs' 0).2.2).2)) := by
          refine ⟨by simp [HJ.out.1], ?_⟩
          rw [HJ.out.2, show N - j = (N - (j + 1)) + 1 from by omega, rItems, if_pos rfl]
          simp
        have HBC := Lib.hid (hbcell _ hC)
        clear HFIN
        go_wp2_with fail
        refine (s_one HA.out HBC.out hbg (fun k hk => Nat.lt_of_lt_of_le (HOK.out k hk) s1)).mono ?_
        rintro x w3 ⟨rfl, h3, hc3⟩
        have HA3 := Lib.hid h3
        have hR3 := Kd.R_chg hR hc3 (fun k hk e => by have := hag _ e; omega)
        have hC3 := hC.trans hc3 (fun k hk => .inl hk)
        have s3 := hC3.size
        obtain ⟨y, hy⟩ : ∃ y, (rUpd bs' 0).1 = y := ⟨_, rfl⟩
        obtain ⟨bs2, hbs2⟩ : ∃ y, (rUpd bs' 0).2.1 = y := ⟨_, rfl⟩
        obtain ⟨e2, he2⟩ : ∃ y, (rUpd bs' 0).2.2 = y := ⟨_, rfl⟩
        rw [hy, hbs2, he2] at HN
        rw [hbs2, he2] at HA3
        rw [hy]
        clear hy hbs2 he2 h3 hc3 hR hC
        go_wp2_with (at_builtin; refine wp_app1U rfl _ _ rfl w.heap.size _ (.slice A j c) acc y rfl rfl hR3 s3 (j + 1) ?_ ?_ ?_)
        · rw [HJ.out.1]
        · omega
        intro A5 c5 w5 hR5 hC5 _
        have HA5 : Hid (IsRdAt w5 ok g true bs2 e2) := HA3.out.chg hC5 (fun k hk e => by have := (Kd.R_own hR3 k e.symm).1; have := HOK.out k hk; omega)
        have hC6 := hC3.trans hC5 (fun k hk => .inr (Kd.R_own hR3 k hk.symm).1)
        have hR6 := Kd.R_ge updK_flat hR5
        clear hR5 hC5 hR3 hC3
        go_wp2
        go_roundw
        case rel => exact ⟨j + 1, _, A5, c5, bs2, e2, rfl, by go_num, by omega, HN, HA5, hR6, hC6⟩
        case measure => simp [intOf]; omega
      · have he' : ((e' : Int) == 0) = false := by simp; omega
        have HE := Lib.hid (HFIN.out (fun h => he h.2))
        clear HFIN
        go_wp2
        go_ret
        obtain ⟨A', c', k1, k2⟩ := HE.out
        rw [k1]
        exact ⟨A', c', rfl, k2⟩
    · have b1 : ¬ (j : Int) < (N : Int) := by omega
      have HE := Lib.hid (HFIN.out (fun h => hlt h.1))
      clear HFIN
      go_wp2
      go_ret
      obtain ⟨A', c', k1, k2⟩ := HE.out
      rw [k1]
      exact ⟨A', c', rfl, k2⟩
end Go.Proofs.Ytmahjeafoogamaa
