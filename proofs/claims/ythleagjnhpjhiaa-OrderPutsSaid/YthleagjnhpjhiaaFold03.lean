import Derived.Test.YthleagjnhpjhiaaFold02
import Derived.Deep.RegionHeld3
import Derived.BigQuiet
/- Services: how they read; slices.Clone; the program's 'own'; the reference's SameServices. -/
namespace Go.Proofs.Ythleagjnhpjhiaa
open Go.RowKit
set_option linter.unusedVariables false
set_option linter.unusedSimpArgs false
abbrev tagsK : Kd (List ByteArray) := Kd.such (Kd.slice strK) (fun l => l.length * 16 ≤ 140737488351232)
/-- Node, id, name, tags, port, where made, index. -/
abbrev Svc := Int × ByteArray × ByteArray × List ByteArray × Int × Int × Int
abbrev svcK : Kd Svc := Kd.pair (Kd.int .i64) (Kd.pair strK (Kd.pair strK (Kd.pair tagsK (Kd.pair (Kd.int .i64) (Kd.pair (Kd.int .u64) (Kd.int .u64))))))
theorem svc_cells {w : World} {ok : Nat → Prop} {x : Svc} {cs : List Value} (h : svcK.K w ok x cs) : ∃ L d, cs = [.int .i64 x.1, .string x.2.1, .string x.2.2.1, .slice L x.2.2.2.1.length d, .int .i64 x.2.2.2.2.1, .int .u64 x.2.2.2.2.2.1, .int .u64 x.2.2.2.2.2.2] ∧ strK.C w ok L x.2.2.2.1 ∧ x.2.2.2.1.length ≤ d ∧ x.2.2.2.1.length * 16 ≤ 140737488351232 := by
  obtain ⟨c0, _, e, h0, c1, _, rfl, h1, c2, _, rfl, h2, c3, _, rfl, ⟨⟨L, d, rfl, hl, hC⟩, hb⟩, c4, _, rfl, h4, c5, _, rfl, h5, h6⟩ := h
  have h0' : c0 = [.int .i64 x.1] := h0
  have h1' : c1 = [.string x.2.1] := h1
  have h2' : c2 = [.string x.2.2.1] := h2
  have h4' : c4 = [.int .i64 x.2.2.2.2.1] := h4
  have h5' : c5 = [.int .u64 x.2.2.2.2.2.1] := h5
  subst h0' h1' h2' h4' h5'
  refine ⟨L, d, ?_, hC, hl, hb⟩
  rw [e]
  simp only [List.cons_append, List.nil_append]
  rw [show _ = [Value.int .u64 x.2.2.2.2.2.2] from h6]
theorem svc_mk {w : World} {ok : Nat → Prop} {x : Svc} {L : Option Addr} {d : Nat} (hC : strK.C w ok L x.2.2.2.1) (hl : x.2.2.2.1.length ≤ d) (hb : x.2.2.2.1.length * 16 ≤ 140737488351232) : svcK.K w ok x [.int .i64 x.1, .string x.2.1, .string x.2.2.1, .slice L x.2.2.2.1.length d, .int .i64 x.2.2.2.2.1, .int .u64 x.2.2.2.2.2.1, .int .u64 x.2.2.2.2.2.2] :=
  ⟨[_], _, rfl, rfl, [_], _, rfl, rfl, [_], _, rfl, rfl, [_], _, rfl, ⟨⟨L, d, rfl, hl, hC⟩, hb⟩, [_], _, rfl, rfl, [_], _, rfl, rfl, rfl⟩
/-- An element of a list of services, cell by cell. -/
structure SvcAt (w : World) (b p : Nat) (x : Svc) (L : Option Addr) (d tn : Nat) : Prop where
  c0 : w.cell? ⟨b, p, none⟩ = some (.int .i64 x.1)
  c1 : w.cell? ⟨b, p + 1, none⟩ = some (.string x.2.1)
  c2 : w.cell? ⟨b, p + 2, none⟩ = some (.string x.2.2.1)
  c3 : w.cell? ⟨b, p + 3, none⟩ = some (.slice L tn d)
  c4 : w.cell? ⟨b, p + 4, none⟩ = some (.int .i64 x.2.2.2.2.1)
  c5 : w.cell? ⟨b, p + 5, none⟩ = some (.int .u64 x.2.2.2.2.2.1)
  c6 : w.cell? ⟨b, p + 6, none⟩ = some (.int .u64 x.2.2.2.2.2.2)
theorem svc_at {w : World} {ok : Nat → Prop} {A : Option Addr} {l : List Svc} (h : svcK.C w ok A l) {j : Nat} {x : Svc} (hx : l[j]? = some x) :
    ∃ b o L d, A = some ⟨b, o, none⟩ ∧ ok b ∧ SvcAt w b (o + j * 7) x L d x.2.2.2.1.length ∧ strK.C w ok L x.2.2.2.1 ∧ x.2.2.2.1.length ≤ d ∧ x.2.2.2.1.length * 16 ≤ 140737488351232 := by
  obtain ⟨b, o, c, e, hb, hk, hc⟩ := Kd.C_at' h hx
  obtain ⟨L, d, rfl, hC, hl, hs⟩ := svc_cells hk
  exact ⟨b, o, L, d, e, hb, ⟨hc 0 _ rfl, hc 1 _ rfl, hc 2 _ rfl, hc 3 _ rfl, hc 4 _ rfl, hc 5 _ rfl, hc 6 _ rfl⟩, hC, hl, hs⟩
theorem R_form {α : Type} {d : Kd α} {e base n c : Nat} {w : World} {ok : Nat → Prop} {A : Option Addr} {l : List α} (h : d.R e w base ok (.slice A n c) l) (hn : 0 < l.length) : ∃ g, A = some ⟨g, 0, none⟩ ∧ base ≤ g ∧ ∀ j, w.frozen? ⟨g, j, none⟩ = false := by
  obtain ⟨h0, inner, ho, hr⟩ := h
  obtain ⟨g, cap, hv, hb, _⟩ := ho.form hn
  injection hv with h1 h2 h3
  subst h1 h3
  have h2' : n = l.length := h2
  subst h2'
  exact ⟨g, rfl, hb, fun j => ho.frozenAt j⟩
theorem heap_lt_of_cell {w : World} {b p : Nat} {v : Value} (h : w.cell? ⟨b, p, none⟩ = some v) : b < w.heap.size := World.block_lt_of_cell? w _ h
theorem set_same {α : Type} {l : List α} {j : Nat} {x : α} (h : l[j]? = some x) : l.set j x = l := by
  apply List.ext_getElem?
  intro i
  rw [List.getElem?_set]
  by_cases hij : j = i
  · subst hij
    obtain ⟨hj, he⟩ := List.getElem?_eq_some_iff.1 h
    rw [if_pos rfl, if_pos hj, h]
  · rw [if_neg hij]
theorem SvcAt.new {w w' : World} {b p d tn : Nat} {x : Svc} {L : Option Addr} (h : SvcAt w b p x L d tn) (hc : Chg nob w w') : SvcAt w' b p x L d tn :=
  ⟨hc.cell h.c0 (not_nob _), hc.cell h.c1 (not_nob _), hc.cell h.c2 (not_nob _), hc.cell h.c3 (not_nob _), hc.cell h.c4 (not_nob _), hc.cell h.c5 (not_nob _), hc.cell h.c6 (not_nob _)⟩
theorem SvcAt.pair {w : World} {b p d tn b2 p2 d2 : Nat} {x : Svc} {L L2 : Option Addr} (h : SvcAt w b p x L d tn) (k : SvcAt w b2 p2 x L2 d2 tn) :
    (w.cell? ⟨b, p, none⟩ = some (.int .i64 x.1) ∧ w.cell? ⟨b, p + 1, none⟩ = some (.string x.2.1) ∧ w.cell? ⟨b, p + 2, none⟩ = some (.string x.2.2.1) ∧ w.cell? ⟨b, p + 3, none⟩ = some (.slice L tn d) ∧ w.cell? ⟨b, p + 4, none⟩ = some (.int .i64 x.2.2.2.2.1) ∧ w.cell? ⟨b, p + 5, none⟩ = some (.int .u64 x.2.2.2.2.2.1) ∧ w.cell? ⟨b, p + 6, none⟩ = some (.int .u64 x.2.2.2.2.2.2)) ∧
    w.cell? ⟨b2, p2, none⟩ = some (.int .i64 x.1) ∧ w.cell? ⟨b2, p2 + 1, none⟩ = some (.string x.2.1) ∧ w.cell? ⟨b2, p2 + 2, none⟩ = some (.string x.2.2.1) ∧ w.cell? ⟨b2, p2 + 3, none⟩ = some (.slice L2 tn d2) ∧ w.cell? ⟨b2, p2 + 4, none⟩ = some (.int .i64 x.2.2.2.2.1) ∧ w.cell? ⟨b2, p2 + 5, none⟩ = some (.int .u64 x.2.2.2.2.2.1) ∧ w.cell? ⟨b2, p2 + 6, none⟩ = some (.int .u64 x.2.2.2.2.2.2) :=
  ⟨⟨h.c0, h.c1, h.c2, h.c3, h.c4, h.c5, h.c6⟩, k.c0, k.c1, k.c2, k.c3, k.c4, k.c5, k.c6⟩
def svcV (x : Svc) (L : Option Addr) (d tn : Nat) : Array Value := #[.int .i64 x.1, .string x.2.1, .string x.2.2.1, .slice L tn d, .int .i64 x.2.2.2.2.1, .int .u64 x.2.2.2.2.2.1, .int .u64 x.2.2.2.2.2.2]
theorem svc_block {w : World} {g t : Nat} {x : Svc} {L : Option Addr} {d tn : Nat} (h : w.heap[g]? = some (.cells (svcV x L d tn) t (0, 0))) : SvcAt w g 0 x L d tn :=
  ⟨by rw [cell_of_row w g _ _ _ _ h]; rfl, by rw [cell_of_row w g _ _ _ _ h]; rfl, by rw [cell_of_row w g _ _ _ _ h]; rfl, by rw [cell_of_row w g _ _ _ _ h]; rfl, by rw [cell_of_row w g _ _ _ _ h]; rfl, by rw [cell_of_row w g _ _ _ _ h]; rfl, by rw [cell_of_row w g _ _ _ _ h]; rfl⟩
end Go.Proofs.Ythleagjnhpjhiaa

/- The catalog's data: nodes, checks, entries, intentions, instances, answers, questions: how they read. -/
namespace Go.Proofs.Ythleagjnhpjhiaa
open Go.RowKit
set_option linter.unusedVariables false
set_option linter.unusedSimpArgs false
abbrev listK {α : Type} (d : Kd α) (b : Nat) : Kd (List α) := Kd.such (Kd.slice d) (fun l => l.length * b ≤ 140737488351232)
/-- Node, address, where made, index. -/
abbrev Nod := Int × ByteArray × Int × Int
abbrev nodK : Kd Nod := Kd.pair (Kd.int .i64) (Kd.pair strK (Kd.pair (Kd.int .u64) (Kd.int .u64)))
/-- Node, id, service, note, status, where made, index. -/
abbrev Chk := Int × ByteArray × ByteArray × ByteArray × Int × Int × Int
abbrev chkK : Kd Chk := Kd.pair (Kd.int .i64) (Kd.pair strK (Kd.pair strK (Kd.pair strK (Kd.pair (Kd.int .i64) (Kd.pair (Kd.int .u64) (Kd.int .u64))))))
/-- Key, value, session, locks, where made, index. -/
abbrev Ent := ByteArray × ByteArray × Int × Int × Int × Int
abbrev entK : Kd Ent := Kd.pair strK (Kd.pair strK (Kd.pair (Kd.int .u64) (Kd.pair (Kd.int .u64) (Kd.pair (Kd.int .u64) (Kd.int .u64)))))
/-- Source, destination, whether, where made, index. -/
abbrev Itn := ByteArray × ByteArray × Bool × Int × Int
abbrev itnK : Kd Itn := Kd.pair strK (Kd.pair strK (Kd.pair Kd.bool (Kd.pair (Kd.int .u64) (Kd.int .u64))))
/-- A service, and its status. -/
abbrev Inst := Svc × Int
abbrev instK : Kd Inst := Kd.pair svcK (Kd.int .i64)
/-- Whether it is there, node, address, services, checks. -/
abbrev Own := Bool × Int × ByteArray × List Svc × List Chk
abbrev ownK : Kd Own := Kd.pair Kd.bool (Kd.pair (Kd.int .i64) (Kd.pair strK (Kd.pair (listK svcK 88) (listK chkK 80))))
/-- Kind, index, own, nodes, instances, entries, intentions. -/
abbrev Ans := Int × Int × Own × List Nod × List Inst × List Ent × List Itn
abbrev ansK : Kd Ans := Kd.pair (Kd.int .i64) (Kd.pair (Kd.int .u64) (Kd.pair ownK (Kd.pair (listK nodK 40) (Kd.pair (listK instK 96) (Kd.pair (listK entK 64) (listK itnK 56))))))
/-- Kind, node, name, tag, key, whether healthy. -/
abbrev Qry := Int × Int × ByteArray × ByteArray × ByteArray × Bool
abbrev qryK : Kd Qry := Kd.pair (Kd.int .i64) (Kd.pair (Kd.int .i64) (Kd.pair strK (Kd.pair strK (Kd.pair strK Kd.bool))))
/-- An instance of a list, cell by cell. -/
theorem inst_at {w : World} {ok : Nat → Prop} {A : Option Addr} {l : List Inst} (h : instK.C w ok A l) {j : Nat} {x : Inst} (hx : l[j]? = some x) :
    ∃ b o L d, A = some ⟨b, o, none⟩ ∧ ok b ∧ SvcAt w b (o + j * 8) x.1 L d x.1.2.2.2.1.length ∧ w.cell? ⟨b, o + j * 8 + 7, none⟩ = some (.int .i64 x.2) ∧ strK.C w ok L x.1.2.2.2.1 ∧ x.1.2.2.2.1.length ≤ d ∧ x.1.2.2.2.1.length * 16 ≤ 140737488351232 := by
  obtain ⟨b, o, c, e, hb, ⟨c0, c1, rfl, hk, hs⟩, hc⟩ := Kd.C_at' h hx
  obtain ⟨L, d, rfl, hC, hl, hb2⟩ := svc_cells hk
  have hs' : c1 = [.int .i64 x.2] := hs
  subst hs'
  exact ⟨b, o, L, d, e, hb, ⟨hc 0 _ rfl, hc 1 _ rfl, hc 2 _ rfl, hc 3 _ rfl, hc 4 _ rfl, hc 5 _ rfl, hc 6 _ rfl⟩, hc 7 _ rfl, hC, hl, hb2⟩
/-- What an answer's cells say. -/
structure AnsV (w : World) (ok : Nat → Prop) (x : Ans) (cs : List Value) : Prop where
  ex : ∃ S sd K kd N nd I id E ed T td, cs = [.int .i64 x.1, .int .u64 x.2.1, .bool x.2.2.1.1, .int .i64 x.2.2.1.2.1, .string x.2.2.1.2.2.1, .slice S x.2.2.1.2.2.2.1.length sd, .slice K x.2.2.1.2.2.2.2.length kd, .slice N x.2.2.2.1.length nd, .slice I x.2.2.2.2.1.length id, .slice E x.2.2.2.2.2.1.length ed, .slice T x.2.2.2.2.2.2.length td] ∧
    (svcK.C w ok S x.2.2.1.2.2.2.1 ∧ x.2.2.1.2.2.2.1.length ≤ sd ∧ x.2.2.1.2.2.2.1.length * 88 ≤ 140737488351232) ∧ (chkK.C w ok K x.2.2.1.2.2.2.2 ∧ x.2.2.1.2.2.2.2.length ≤ kd ∧ x.2.2.1.2.2.2.2.length * 80 ≤ 140737488351232) ∧
    (nodK.C w ok N x.2.2.2.1 ∧ x.2.2.2.1.length ≤ nd ∧ x.2.2.2.1.length * 40 ≤ 140737488351232) ∧ (instK.C w ok I x.2.2.2.2.1 ∧ x.2.2.2.2.1.length ≤ id ∧ x.2.2.2.2.1.length * 96 ≤ 140737488351232) ∧
    (entK.C w ok E x.2.2.2.2.2.1 ∧ x.2.2.2.2.2.1.length ≤ ed ∧ x.2.2.2.2.2.1.length * 64 ≤ 140737488351232) ∧ (itnK.C w ok T x.2.2.2.2.2.2 ∧ x.2.2.2.2.2.2.length ≤ td ∧ x.2.2.2.2.2.2.length * 56 ≤ 140737488351232)
theorem ans_cells {w : World} {ok : Nat → Prop} {x : Ans} {cs : List Value} (h : ansK.K w ok x cs) : AnsV w ok x cs := by
  obtain ⟨c0, _, e, h0, c1, _, rfl, h1, c2, _, rfl, ⟨d0, _, rfl, k0, d1, _, rfl, k1, d2, _, rfl, k2, d3, d4, rfl, ⟨⟨S, sd, rfl, hS1, hS2⟩, hS3⟩, ⟨K, kd, rfl, hK1, hK2⟩, hK3⟩, c3, _, rfl, ⟨⟨N, nd, rfl, hN1, hN2⟩, hN3⟩, c4, _, rfl, ⟨⟨I, id, rfl, hI1, hI2⟩, hI3⟩, c5, c6, rfl, ⟨⟨E, ed, rfl, hE1, hE2⟩, hE3⟩, ⟨T, td, rfl, hT1, hT2⟩, hT3⟩ := h
  have h0' : c0 = [.int .i64 x.1] := h0
  have h1' : c1 = [.int .u64 x.2.1] := h1
  have k0' : d0 = [.bool x.2.2.1.1] := k0
  have k1' : d1 = [.int .i64 x.2.2.1.2.1] := k1
  have k2' : d2 = [.string x.2.2.1.2.2.1] := k2
  subst h0' h1' k0' k1' k2'
  exact ⟨S, sd, K, kd, N, nd, I, id, E, ed, T, td, by rw [e]; rfl, ⟨hS2, hS1, hS3⟩, ⟨hK2, hK1, hK3⟩, ⟨hN2, hN1, hN3⟩, ⟨hI2, hI1, hI3⟩, ⟨hE2, hE1, hE3⟩, ⟨hT2, hT1, hT3⟩⟩
theorem ans_mk {w : World} {ok : Nat → Prop} {x : Ans} {S K N I E T : Option Addr} {sd kd nd id ed td : Nat}
    (hS : svcK.C w ok S x.2.2.1.2.2.2.1 ∧ x.2.2.1.2.2.2.1.length ≤ sd ∧ x.2.2.1.2.2.2.1.length * 88 ≤ 140737488351232) (hK : chkK.C w ok K x.2.2.1.2.2.2.2 ∧ x.2.2.1.2.2.2.2.length ≤ kd ∧ x.2.2.1.2.2.2.2.length * 80 ≤ 140737488351232)
    (hN : nodK.C w ok N x.2.2.2.1 ∧ x.2.2.2.1.length ≤ nd ∧ x.2.2.2.1.length * 40 ≤ 140737488351232) (hI : instK.C w ok I x.2.2.2.2.1 ∧ x.2.2.2.2.1.length ≤ id ∧ x.2.2.2.2.1.length * 96 ≤ 140737488351232)
    (hE : entK.C w ok E x.2.2.2.2.2.1 ∧ x.2.2.2.2.2.1.length ≤ ed ∧ x.2.2.2.2.2.1.length * 64 ≤ 140737488351232) (hT : itnK.C w ok T x.2.2.2.2.2.2 ∧ x.2.2.2.2.2.2.length ≤ td ∧ x.2.2.2.2.2.2.length * 56 ≤ 140737488351232) :
    ansK.K w ok x [.int .i64 x.1, .int .u64 x.2.1, .bool x.2.2.1.1, .int .i64 x.2.2.1.2.1, .string x.2.2.1.2.2.1, .slice S x.2.2.1.2.2.2.1.length sd, .slice K x.2.2.1.2.2.2.2.length kd, .slice N x.2.2.2.1.length nd, .slice I x.2.2.2.2.1.length id, .slice E x.2.2.2.2.2.1.length ed, .slice T x.2.2.2.2.2.2.length td] :=
  ⟨[_], _, rfl, rfl, [_], _, rfl, rfl, [_, _, _, _, _], _, rfl, ⟨[_], _, rfl, rfl, [_], _, rfl, rfl, [_], _, rfl, rfl, [_], [_], rfl, ⟨⟨S, sd, rfl, hS.2.1, hS.1⟩, hS.2.2⟩, ⟨K, kd, rfl, hK.2.1, hK.1⟩, hK.2.2⟩, [_], _, rfl, ⟨⟨N, nd, rfl, hN.2.1, hN.1⟩, hN.2.2⟩, [_], _, rfl, ⟨⟨I, id, rfl, hI.2.1, hI.1⟩, hI.2.2⟩, [_], [_], rfl, ⟨⟨E, ed, rfl, hE.2.1, hE.1⟩, hE.2.2⟩, ⟨T, td, rfl, hT.2.1, hT.1⟩, hT.2.2⟩
end Go.Proofs.Ythleagjnhpjhiaa
