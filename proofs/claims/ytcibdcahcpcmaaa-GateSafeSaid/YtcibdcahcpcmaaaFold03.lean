import Derived.Test.YtcibdcahcpcmaaaFold02
import Derived.Deep.RegionHeld3
import Derived.BigQuiet
/- Services: how they read; slices.Clone; the program's 'own'; the reference's SameServices. -/
namespace Go.Proofs.Ytcibdcahcpcmaaa
open Go.RowKit
set_option linter.unusedVariables false
set_option linter.unusedSimpArgs false
abbrev tagsK : Kd (List ByteArray) := Kd.such (Kd.slice strK) (fun l => l.length * 16 ≤ 140737488351232)
/-- Node, id, name, tags, port, where made, index. -/
abbrev Svc := Int × ByteArray × ByteArray × List ByteArray × Int × Int × Int
abbrev svcK : Kd Svc := Kd.pair (Kd.int .i64) (Kd.pair strK (Kd.pair strK (Kd.pair tagsK (Kd.pair (Kd.int .i64) (Kd.pair (Kd.int .u64) (Kd.int .u64))))))
theorem svc_cells {w : World} {ok : Nat → Prop} {x : Svc} {cs : List Value} (h : svcK.K w ok x cs) : ∃ L d, cs = [.int .i64 x.1, .string x.2.1, .string x.2.2.1, .slice L x.2.2.2.1.length d, .int .i64 x.2.2.2.2.1, .int .u64 x.2.2.2.2.2.1, .int .u64 x.2.2.2.2.2.2] ∧ strK.C w ok L x.2.2.2.1 ∧ x.2.2.2.1.length ≤ d ∧ x.2.2.2.1.length * 16 ≤ 140737488351232 := by
  obtain ⟨c0, _, e, h0, c1, _, rfl, h1, c2, _, rfl, h2, c3, _, rfl, ⟨⟨L, d, rfl, hl, hC⟩, hb⟩, c4, _, rfl, h4, c5, _, rfl, h5, h6⟩ := h
  have h0' : c0 = [.int .i64 x.1] := h0
  have h1' : c1 = [.string x.2.1] := h1
  have h2' : c2 = [.string x.2.2.1] := h2
  have h4' : c4 = [.int .i64 x.2.2.2.2.1] := h4
  have h5' : c5 = [.int .u64 x.2.2.2.2.2.1] := h5
  subst h0' h1' h2' h4' h5'
  refine ⟨L, d, ?_, hC, hl, hb⟩
  rw [e]
  simp only [List.cons_append, List.nil_append]
  rw [show _ = [Value.int .u64 x.2.2.2.2.2.2] from h6]
theorem svc_mk {w : World} {ok : Nat → Prop} {x : Svc} {L : Option Addr} {d : Nat} (hC : strK.C w ok L x.2.2.2.1) (hl : x.2.2.2.1.length ≤ d) (hb : x.2.2.2.1.length * 16 ≤ 140737488351232) : svcK.K w ok x [.int .i64 x.1, .string x.2.1, .string x.2.2.1, .slice L x.2.2.2.1.length d, .int .i64 x.2.2.2.2.1, .int .u64 x.2.2.2.2.2.1, .int .u64 x.2.2.2.2.2.2] :=
  ⟨[_], _, rfl, rfl, [_], _, rfl, rfl, [_], _, rfl, rfl, [_], _, rfl, ⟨⟨L, d, rfl, hl, hC⟩, hb⟩, [_], _, rfl, rfl, [_], _, rfl, rfl, rfl⟩
/-- An element of a list of services, cell by cell. -/
structure SvcAt (w : World) (b p : Nat) (x : Svc) (L : Option Addr) (d tn : Nat) : Prop where
  c0 : w.cell? ⟨b, p, none⟩ = some (.int .i64 x.1)
  c1 : w.cell? ⟨b, p + 1, none⟩ = some (.string x.2.1)
  c2 : w.cell? ⟨b, p + 2, none⟩ = some (.string x.2.2.1)
  c3 : w.cell? ⟨b, p + 3, none⟩ = some (.slice L tn d)
  c4 : w.cell? ⟨b, p + 4, none⟩ = some (.int .i64 x.2.2.2.2.1)
  c5 : w.cell? ⟨b, p + 5, none⟩ = some (.int .u64 x.2.2.2.2.2.1)
  c6 : w.cell? ⟨b, p + 6, none⟩ = some (.int .u64 x.2.2.2.2.2.2)
theorem svc_at {w : World} {ok : Nat → Prop} {A : Option Addr} {l : List Svc} (h : svcK.C w ok A l) {j : Nat} {x : Svc} (hx : l[j]? = some x) :
    ∃ b o L d, A = some ⟨b, o, none⟩ ∧ ok b ∧ SvcAt w b (o + j * 7) x L d x.2.2.2.1.length ∧ strK.C w ok L x.2.2.2.1 ∧ x.2.2.2.1.length ≤ d ∧ x.2.2.2.1.length * 16 ≤ 140737488351232 := by
  obtain ⟨b, o, c, e, hb, hk, hc⟩ := Kd.C_at' h hx
  obtain ⟨L, d, rfl, hC, hl, hs⟩ := svc_cells hk
  exact ⟨b, o, L, d, e, hb, ⟨hc 0 _ rfl, hc 1 _ rfl, hc 2 _ rfl, hc 3 _ rfl, hc 4 _ rfl, hc 5 _ rfl, hc 6 _ rfl⟩, hC, hl, hs⟩
theorem l_cloneV_info : (Try.prog.info? 126).map (fun i => (i.zero, i.size, i.bytes)) = some (some (.agg #[.int .i64 0, .string ByteArray.empty, .string ByteArray.empty, .slice none 0 0, .int .i64 0, .int .u64 0, .int .u64 0]), (svcK).sz, 88) := by kernel_rfl
theorem l_cloneV {w : World} {ok : Nat → Prop} {A : Option Addr} {n c : Nat} {l : List Svc} (h : (svcK).C w ok A l) (hn : l.length = n) (hl : n * 88 ≤ 140737488355328) :
    Calls Try.prog 87 #[.slice A n c] w (ClonedK svcK 126 ok w l) := by
  have hsm := h.small
  rw [hn] at hsm
  have HC := Lib.hid h
  have HN := Lib.hid hn
  have heq := fun (wx : World) => Lib.run_eql_slice_nil (P := Try.prog) wx 48 126 A n c 0 0 Try.underlying48
  go_enter Try.func87, Try.ntmps87
  cases A with
  | none =>
    obtain ⟨rfl, rfl⟩ := nil_nil h hn
    clear h hsm hn
    go_wp2
    go_ret
    exact cloned_nil _ _ _ _
  | some ad =>
    have HE := Lib.hid (empty_ownR w w.heap.size 126 svcK (Nat.le_refl _))
    have HC1 := Lib.hid (Kd.C_new (Kd.C_bound HC.out) ((Chg.refl nob w).alloc (.cells #[] 126)))
    clear h hsm hn
    go_wp2_with (at_builtin; refine wp_append (d := svcK) rfl _ _ 48 rfl 126 (.agg #[.int .i64 0, .string ByteArray.empty, .string ByteArray.empty, .slice none 0 0, .int .i64 0, .int .u64 0, .int .u64 0]) 88 Try.underlying48 l_cloneV_info rfl w.heap.size _ _ (.slice (some ⟨w.heap.size, 0, none⟩) 0 0) [] l (some ad) n c rfl rfl HN.out HE.out HC1.out ?_ ?_ ?_ (by simp) n ?_ ?_)
    · rintro k hk e
      cases e
      exact absurd hk.2 (Nat.lt_irrefl _)
    · have := HC.out.small; simpa [maxLen] using this
    · simpa [HN.out] using hl
    · simp
    intro A1 c1 w1 hR hC _
    have HCL := Lib.hid (cloned_end HN.out hR hC)
    clear hR hC HE
    go_wp2
    go_ret
    exact HCL.out
theorem R_form {α : Type} {d : Kd α} {e base n c : Nat} {w : World} {ok : Nat → Prop} {A : Option Addr} {l : List α} (h : d.R e w base ok (.slice A n c) l) (hn : 0 < l.length) : ∃ g, A = some ⟨g, 0, none⟩ ∧ base ≤ g ∧ ∀ j, w.frozen? ⟨g, j, none⟩ = false := by
  obtain ⟨h0, inner, ho, hr⟩ := h
  obtain ⟨g, cap, hv, hb, _⟩ := ho.form hn
  injection hv with h1 h2 h3
  subst h1 h3
  have h2' : n = l.length := h2
  subst h2'
  exact ⟨g, rfl, hb, fun j => ho.frozenAt j⟩
theorem heap_lt_of_cell {w : World} {b p : Nat} {v : Value} (h : w.cell? ⟨b, p, none⟩ = some v) : b < w.heap.size := World.block_lt_of_cell? w _ h
theorem set_same {α : Type} {l : List α} {j : Nat} {x : α} (h : l[j]? = some x) : l.set j x = l := by
  apply List.ext_getElem?
  intro i
  rw [List.getElem?_set]
  by_cases hij : j = i
  · subst hij
    obtain ⟨hj, he⟩ := List.getElem?_eq_some_iff.1 h
    rw [if_pos rfl, if_pos hj, h]
  · rw [if_neg hij]
theorem SvcAt.new {w w' : World} {b p d tn : Nat} {x : Svc} {L : Option Addr} (h : SvcAt w b p x L d tn) (hc : Chg nob w w') : SvcAt w' b p x L d tn :=
  ⟨hc.cell h.c0 (not_nob _), hc.cell h.c1 (not_nob _), hc.cell h.c2 (not_nob _), hc.cell h.c3 (not_nob _), hc.cell h.c4 (not_nob _), hc.cell h.c5 (not_nob _), hc.cell h.c6 (not_nob _)⟩
theorem SvcAt.pair {w : World} {b p d tn b2 p2 d2 : Nat} {x : Svc} {L L2 : Option Addr} (h : SvcAt w b p x L d tn) (k : SvcAt w b2 p2 x L2 d2 tn) :
    (w.cell? ⟨b, p, none⟩ = some (.int .i64 x.1) ∧ w.cell? ⟨b, p + 1, none⟩ = some (.string x.2.1) ∧ w.cell? ⟨b, p + 2, none⟩ = some (.string x.2.2.1) ∧ w.cell? ⟨b, p + 3, none⟩ = some (.slice L tn d) ∧ w.cell? ⟨b, p + 4, none⟩ = some (.int .i64 x.2.2.2.2.1) ∧ w.cell? ⟨b, p + 5, none⟩ = some (.int .u64 x.2.2.2.2.2.1) ∧ w.cell? ⟨b, p + 6, none⟩ = some (.int .u64 x.2.2.2.2.2.2)) ∧
    w.cell? ⟨b2, p2, none⟩ = some (.int .i64 x.1) ∧ w.cell? ⟨b2, p2 + 1, none⟩ = some (.string x.2.1) ∧ w.cell? ⟨b2, p2 + 2, none⟩ = some (.string x.2.2.1) ∧ w.cell? ⟨b2, p2 + 3, none⟩ = some (.slice L2 tn d2) ∧ w.cell? ⟨b2, p2 + 4, none⟩ = some (.int .i64 x.2.2.2.2.1) ∧ w.cell? ⟨b2, p2 + 5, none⟩ = some (.int .u64 x.2.2.2.2.2.1) ∧ w.cell? ⟨b2, p2 + 6, none⟩ = some (.int .u64 x.2.2.2.2.2.2) :=
  ⟨⟨h.c0, h.c1, h.c2, h.c3, h.c4, h.c5, h.c6⟩, k.c0, k.c1, k.c2, k.c3, k.c4, k.c5, k.c6⟩
def svcV (x : Svc) (L : Option Addr) (d tn : Nat) : Array Value := #[.int .i64 x.1, .string x.2.1, .string x.2.2.1, .slice L tn d, .int .i64 x.2.2.2.2.1, .int .u64 x.2.2.2.2.2.1, .int .u64 x.2.2.2.2.2.2]
theorem svc_block {w : World} {g t : Nat} {x : Svc} {L : Option Addr} {d tn : Nat} (h : w.heap[g]? = some (.cells (svcV x L d tn) t (0, 0))) : SvcAt w g 0 x L d tn :=
  ⟨by rw [cell_of_row w g _ _ _ _ h]; rfl, by rw [cell_of_row w g _ _ _ _ h]; rfl, by rw [cell_of_row w g _ _ _ _ h]; rfl, by rw [cell_of_row w g _ _ _ _ h]; rfl, by rw [cell_of_row w g _ _ _ _ h]; rfl, by rw [cell_of_row w g _ _ _ _ h]; rfl, by rw [cell_of_row w g _ _ _ _ h]; rfl⟩
set_option maxHeartbeats 1000000 in
theorem c_services {w : World} {ok : Nat → Prop} {A : Option Addr} {n c : Nat} {l : List Svc} (h : svcK.C w ok A l) (hn : l.length = n) (hl : n * 88 ≤ 140737488355328) :
    Calls Try.prog 65 #[.slice A n c] w (ClonedK svcK 126 ok w l) := by
  have HC := Lib.hid h
  have HN := Lib.hid hn
  go_enter Try.func65, Try.ntmps65
  clear h hn
  go_wp2_with fail
  refine (l_cloneV HC.out HN.out hl).mono ?_
  rintro e w1 ⟨A1, c1, rfl, hc1, hR1, hch1⟩
  rw [HN.out] at hR1 hc1 ⊢
  have HR1 := Lib.hid hR1
  have HCH1 := Lib.hid hch1
  have hsm := HC.out.small
  rw [HN.out] at hsm
  clear hR1 hch1
  go_wp2
  go_loopw [9] (fun i wr => ∃ j : Nat, j ≤ n ∧ i = .int .i64 j ∧ Hid (svcK.R 126 wr w.heap.size (fun b => ok b ∨ w.heap.size ≤ b) (.slice A1 n c1) l) ∧ Hid (Chg nob w wr)) (fun i _ => n - (intOf i).toNat)
  case atStart => exact ⟨0, Nat.zero_le _, rfl, HR1, HCH1⟩
  case round =>
    obtain ⟨j, hj, rfl, HR, HCH⟩ := hrel
    clear HR1 HCH1
    by_cases hlt : j < n
    · have b1 : (j : Int) < (n : Int) := by omega
      have b3 : (0 : Int) ≤ (j : Int) := by omega
      obtain ⟨x, hx⟩ : ∃ x, l[j]? = some x := ⟨_, List.getElem?_eq_getElem (by rw [HN.out]; exact hlt)⟩
      obtain ⟨g, hg, hgb, hfz⟩ := R_form HR.out (by rw [HN.out]; omega)
      subst hg
      obtain ⟨b, o, L, d, e, _, hat, hC, hd, hs⟩ := svc_at (Kd.R_read HR.out).1 hx
      obtain ⟨rfl, rfl⟩ : b = g ∧ o = 0 := by simp at e; omega
      rw [Nat.zero_add] at hat
      obtain ⟨tn, htn⟩ : ∃ tn, x.2.2.2.1.length = tn := ⟨_, rfl⟩
      rw [htn] at hat hd hs
      have q3 := hat.c3
      have HX := Lib.hid hx
      have HTN := Lib.hid htn
      have HCT := Lib.hid hC
      have HAT := Lib.hid hat
      have hfz2 := hfz (j * 7 + 3)
      have HBL := Lib.hid (heap_lt_of_cell q3)
      clear hx e hC hat htn hfz
      go_wp2_with fail
      refine (l_cloneS HCT.out HTN.out (by omega)).mono ?_
      rintro e w2 ⟨T, td, rfl, htd, hT, hc2⟩
      rw [HTN.out] at htd hT ⊢
      have q3' := hc2.cell q3 (not_nob _)
      have hf' : w2.frozen? ⟨b, j * 7 + 3, none⟩ = false := by
        have := hc2.block b HBL.out (not_nob _)
        unfold World.frozen? at hfz2 ⊢
        dsimp only at hfz2 ⊢
        rw [this]
        exact hfz2
      have hR3 : svcK.R 126 (w2.setCell ⟨b, j * 7 + 3, none⟩ (.slice T tn td)) w.heap.size (fun b => ok b ∨ w.heap.size ≤ b) (.slice (some ⟨b, 0, none⟩) n c1) l := by
        have h1 := Kd.R_setField (i := 3) (u := .slice T tn td) (x' := x) (Kd.R_new HR.out hc2) HX.out (by decide) (fun cs hk => by
          obtain ⟨L', d', rfl, _, _, hs'⟩ := svc_cells hk
          have h2 := svc_mk (w := w2) (ok := fun k => (ok k ∨ w.heap.size ≤ k) ∧ k ≠ b) (x := x) (L := T) (d := td) (Kd.C_mono (Kd.R_read (Kd.R_ge Kd.scalar_flat hT)).1 (fun k hk => ⟨.inr (by have := HCH.out.size; omega), by have := HBL.out; omega⟩)) (by rw [HTN.out]; exact htd) hs'
          rw [HTN.out] at h2
          exact h2)
        rw [set_same HX.out] at h1
        exact h1
      have HR3 := Lib.hid hR3
      have HCH3 : Hid (Chg nob w (w2.setCell ⟨b, j * 7 + 3, none⟩ (.slice T tn td))) := (HCH.out.thenNew hc2).setCell (p := ⟨b, j * 7 + 3, none⟩) (.inr hgb) _
      clear hT hc2 q3 hfz2 hR3
      go_wp2
      exact ⟨⟨j + 1, by omega, by go_num, HR3, HCH3⟩, by simp [intOf]; omega⟩
    · obtain rfl : j = n := by omega
      have b1 : ¬ (j : Int) < (j : Int) := by omega
      go_wp2
      go_ret
      exact ⟨A1, c1, by rw [HN.out]; rfl, by rw [HN.out]; exact hc1, by rw [HN.out]; exact HR.out, HCH.out⟩
end Go.Proofs.Ytcibdcahcpcmaaa
