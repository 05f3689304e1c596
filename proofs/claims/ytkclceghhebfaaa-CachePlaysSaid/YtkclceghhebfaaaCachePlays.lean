/- What the law CachePlays answers. -/
import Derived.Test.YtkclceghhebfaaaCacheRises
import Derived.Test.YtkclceghhebfaaaCacheRefPut
import Derived.Test.YtkclceghhebfaaaStructRun
namespace Go.Proofs.Ytkclceghhebfaaa
open Go.RowKit
set_option linter.unusedVariables false
set_option linter.unusedSimpArgs false
theorem Ents.keys {w : World} {ok : Nat → Prop} : ∀ {m : QMap} {l : Known}, Ents w ok m l → m.map Prod.fst = l.map Prod.fst
  | [], [], _ => rfl
  | (p, c) :: m, (q, a) :: l, ⟨h1, h2, h3⟩ => by
    have h1' : p = q := h1
    rw [List.map_cons, List.map_cons, h1', Ents.keys h3]
  | [], _ :: _, k => k.elim
  | _ :: _, [], k => k.elim
/-- Both caches, at some round; X: blocks that are neither's. -/
structure PlD (w wx : World) (own rown okl X : Nat → Prop) (c g j : Nat) (l : Known) (m : QMap) : Prop where
  cst : CSt wx own rown c l
  rst : RSt wx rown okl g m l
  own : ∀ b, own b → w.heap.size ≤ b ∧ b < wx.heap.size ∧ ¬ rown b ∧ ¬ X b
  rown : ∀ b, rown b → w.heap.size ≤ b ∧ b < wx.heap.size ∧ ¬ X b
  len : l.length ≤ j
  chg : Chg nob w wx
theorem PlD.new {w wx wy : World} {own rown okl X : Nat → Prop} {c g j : Nat} {l : Known} {m : QMap} (h : PlD w wx own rown okl X c g j l m) (hc : Chg nob wx wy) : PlD w wy own rown okl X c g j l m :=
  ⟨h.cst.new hc, h.rst.new hc, fun b hb => ⟨(h.own b hb).1, Nat.lt_of_lt_of_le (h.own b hb).2.1 hc.size, (h.own b hb).2.2⟩, fun b hb => ⟨(h.rown b hb).1, Nat.lt_of_lt_of_le (h.rown b hb).2.1 hc.size, (h.rown b hb).2.2⟩, h.len, h.chg.thenNew hc⟩
theorem PlD.more {w wx : World} {own rown okl X : Nat → Prop} {c g j : Nat} {l : Known} {m : QMap} (h : PlD w wx own rown okl X c g j l m) : PlD w wx own rown okl (fun b => wx.heap.size ≤ b) c g j l m :=
  ⟨h.cst, h.rst, fun b hb => ⟨(h.own b hb).1, (h.own b hb).2.1, (h.own b hb).2.2.1, by have := (h.own b hb).2.1; omega⟩, fun b hb => ⟨(h.rown b hb).1, (h.rown b hb).2.1, by have := (h.rown b hb).2.1; omega⟩, h.len, h.chg⟩
theorem PlD.imp {w wx : World} {own rown okl X Y : Nat → Prop} {c g j : Nat} {l : Known} {m : QMap} (h : PlD w wx own rown okl X c g j l m) (hY : ∀ b, Y b → X b) : PlD w wx own rown okl Y c g j l m :=
  ⟨h.cst, h.rst, fun b hb => ⟨(h.own b hb).1, (h.own b hb).2.1, (h.own b hb).2.2.1, fun k => (h.own b hb).2.2.2 (hY b k)⟩, fun b hb => ⟨(h.rown b hb).1, (h.rown b hb).2.1, fun k => (h.rown b hb).2.2 (hY b k)⟩, h.len, h.chg⟩
theorem PlD.succ {w wx : World} {own rown okl X : Nat → Prop} {c g j : Nat} {l : Known} {m : QMap} (h : PlD w wx own rown okl X c g j l m) : PlD w wx own rown okl X c g (j + 1) l m := ⟨h.cst, h.rst, h.own, h.rown, Nat.le_succ_of_le h.len, h.chg⟩
theorem PlD.mlen {w wx : World} {own rown okl X : Nat → Prop} {c g j : Nat} {l : Known} {m : QMap} (h : PlD w wx own rown okl X c g j l m) : m.length = l.length := h.rst.ents.len
structure PlSt (w wx : World) (okl X : Nat → Prop) (c g j : Nat) : Prop where
  ex : ∃ own rown l m, PlD w wx own rown okl X c g j l m
/-- A new reference's cache, behind a cleared one. -/
theorem RSt.fresh {w1 w2 : World} {okl : Nat → Prop} {g : Nat} (hb : w2.heap[g]? = some (.cells #[.slice none 0 0, .slice none 0 0] 61 (0, 0))) : RSt w2 (fun b => b = g) okl g [] [] :=
  ⟨⟨⟨none, 0, none, 0, hb, Kd.R_nil _ _ _ _ _, Kd.R_nil _ _ _ _ _, ⟨fun k hk => (by simp [Value.ownBlock] at hk), fun k hk => (by simp [Value.ownBlock] at hk)⟩⟩, rfl⟩, trivial⟩
theorem PlD.cleared {w w1 w2 : World} {own av okl X : Nat → Prop} {c g : Nat} (h1 : CSt w1 own av c []) (ho : ∀ b, own b → w.heap.size ≤ b ∧ b < w1.heap.size ∧ ¬ X b) (hX : ∀ b, X b → b < w1.heap.size) (hc1 : Chg nob w w1) (hg : w1.heap.size = g) (hc : Chg nob w1 w2) (hb : w2.heap[g]? = some (.cells #[.slice none 0 0, .slice none 0 0] 61 (0, 0))) :
    PlD w w2 own (fun b => b = g) okl X c g 0 [] [] :=
  ⟨(h1.reav (fun b hb => .inr (by have h : b = g := hb; omega))).new hc, RSt.fresh (w1 := w1) hb, fun b hb => ⟨(ho b hb).1, Nat.lt_of_lt_of_le (ho b hb).2.1 hc.size, fun e => by have h : b = g := e; have := (ho b hb).2.1; omega, (ho b hb).2.2⟩, fun b hb' => by have h : b = g := hb'; subst h; exact ⟨by have := hc1.size; omega, heap_lt hb, fun k => by have := hX _ k; omega⟩, Nat.le_refl _, hc1.thenNew hc⟩
/-- Both have taken an answer, or refused it. -/
theorem PlD.put {w w1 w2 w3 : World} {own rown okl X : Nat → Prop} {c g j : Nat} {l : Known} {m : QMap} {l' : Known} (hX : ∀ b, X b → b < w1.heap.size) (hokl : ∀ b, okl b → b < w.heap.size) (h : PlD w w1 own rown okl X c g j l m) (hl : l'.length ≤ l.length + 1) (hp : PutPost w1 w2 own rown c l') (hr : RPost w2 w3 rown okl g (m.length + 1) l') : PlSt w w3 okl X c g (j + 1) := by
  obtain ⟨own', hst, hc, hlt, hsub, hsup⟩ := hp.ex
  obtain ⟨rown', m', hst2, hml, hc2, hlt2, hsub2, hsup2⟩ := hr.ex
  have ho : ∀ b, own' b → w.heap.size ≤ b ∧ ¬ rown b ∧ ¬ X b := fun b hb => by
    rcases hsup b hb with k | k
    · exact ⟨(h.own b k).1, (h.own b k).2.2⟩
    · exact ⟨Nat.le_trans h.chg.size k, fun e => by have := (h.rown b e).2.1; omega, fun e => by have := hX b e; omega⟩
  refine ⟨own', rown', l', m', ?_, hst2, ?_, ?_, ?_, ?_⟩
  · exact (hst.reav hsup2).chgA hc2 (fun b hb => ⟨fun k => (ho b k).2.1 hb, .inl (hsub2 b hb)⟩)
  · intro b hb
    refine ⟨(ho b hb).1, Nat.lt_of_lt_of_le (hlt b hb) hc2.size, fun e => ?_, (ho b hb).2.2⟩
    rcases hsup2 b e with k | k
    · exact (ho b hb).2.1 k
    · have := hlt b hb; omega
  · intro b hb
    rcases hsup2 b hb with k | k
    · exact ⟨(h.rown b k).1, hlt2 b hb, (h.rown b k).2.2⟩
    · exact ⟨Nat.le_trans (Nat.le_trans h.chg.size hc.size) k, hlt2 b hb, fun e => by have := hX b e; have := hc.size; omega⟩
  · have := h.len; omega
  · exact (h.chg.trans hc (fun i hi => .inr (h.own i hi).1)).trans hc2 (fun i hi => .inr (h.rown i hi).1)
set_option maxRecDepth 100000 in
set_option maxHeartbeats 8000000 in
theorem cachePlays_walk {w : World} {okl : Nat → Prop} {A : Option Addr} {n cp : Nat} {ls : List Stp} (hL : stpK.C w okl A ls) (hn : ls.length = n) (hok : ∀ b, okl b → b < w.heap.size) (hz : ∀ s ∈ ls, QSz s.2.1) :
    Calls Try.prog 5 #[.slice A n cp] w fun e w' => e = .returned (.bool true) ∧ Chg nob w w' := by
  have HL := Lib.hid hL
  have HN := Lib.hid hn
  have HOK := Lib.hid hok
  have HZ := Lib.hid hz
  have hnb : n ≤ 9223372036854775807 := by have := hL.small; omega
  clear hL hn hok hz
  go_enter Try.func5, Try.ntmps5
  go_wp2_with fail
  refine (ca_new w nob).mono ?_
  rintro e w1 ⟨c, rfl, hcw, hst, hc1⟩
  obtain ⟨g0, hg0⟩ : ∃ g0, w1.heap.size = g0 := ⟨_, rfl⟩
  have hb1 := heap_alloc_new w1 (.cells #[.slice none 0 0, .slice none 0 0] 61)
  have hc2 : Chg nob w1 (w1.alloc (.cells #[.slice none 0 0, .slice none 0 0] 61)) := (Chg.refl nob w1).alloc _
  rw [hg0] at hb1
  have HS0 : Hid (PlSt w (w1.alloc (.cells #[.slice none 0 0, .slice none 0 0] 61)) okl nob c g0 0) := ⟨_, _, _, _, PlD.cleared hst (fun b hb => ⟨hb.1, hb.2, not_nob b⟩) (fun b hb => hb.elim) hc1 hg0 hc2 hb1⟩
  clear hcw hst hc1 hb1 hc2
  go_wp2
  go_loopw [4, 5] (fun v i wr => ∃ j g : Nat, j ≤ n ∧ j ≤ 60 ∧ v = .pointer (some ⟨g, 0, none⟩) ∧ i = .int .i64 j ∧ Hid (PlSt w wr okl nob c g j)) (fun _ i _ => 60 - (intOf i).toNat)
  case atStart => exact ⟨0, g0, Nat.zero_le _, by omega, rfl, rfl, HS0⟩
  case round =>
    obtain ⟨j, g, hj, hj60, rfl, rfl, HS⟩ := hrel
    by_cases hlt : j < n
    · have b1 : (j : Int) < (n : Int) := by omega
      have b2 : (0 : Int) ≤ (j : Int) := by omega
      by_cases h60 : j < 60
      · have b3 : (j : Int) < 60 := by omega
        obtain ⟨s, hs⟩ : ∃ s, ls[j]? = some s := ⟨_, List.getElem?_eq_getElem (by rw [HN.out]; exact hlt)⟩
        obtain ⟨lb, lo, rfl, hlb, hat⟩ := stp_at HL.out hs
        have HSZ := Lib.hid (HZ.out s (List.mem_of_getElem? hs))
        have HCW : Hid (Chg nob w wr) := by obtain ⟨own, rown, l, m, hd⟩ := HS.out.ex; exact hd.chg
        obtain ⟨S, nS, sd, Kx, nK, kd, N, nN, nd, I, nI, id, E, nE, ed, T, nT, td, ⟨q0, q1, q2, q3, q4, q5, q6⟩, ⟨a0, a1, a2, a3, a4, a5, a6, a7, a8, a9, a10⟩, hka⟩ := hat.ex
        have HKA := Lib.hid hka
        have HRNG : Hid (wr.rangeAt lb (lo + j * 18) (#[.int .i64 s.1, .int .i64 s.2.1.1, .int .i64 s.2.1.2.1, .string s.2.1.2.2.1, .string s.2.1.2.2.2.1, .string s.2.1.2.2.2.2.1, .bool s.2.1.2.2.2.2.2, .int .i64 s.2.2.1, .int .u64 s.2.2.2.1, .bool s.2.2.2.2.1.1, .int .i64 s.2.2.2.2.1.2.1, .string s.2.2.2.2.1.2.2.1, .slice S nS sd, .slice Kx nK kd, .slice N nN nd, .slice I nI id, .slice E nE ed, .slice T nT td] : Array Value).toList) := fun i v hv => by
          rcases i with _ | _ | _ | _ | _ | _ | _ | _ | _ | _ | _ | _ | _ | _ | _ | _ | _ | _ | i
          · cases hv; exact HCW.out.cell q0 (not_nob _)
          · cases hv; exact HCW.out.cell q1 (not_nob _)
          · cases hv; exact HCW.out.cell q2 (not_nob _)
          · cases hv; exact HCW.out.cell q3 (not_nob _)
          · cases hv; exact HCW.out.cell q4 (not_nob _)
          · cases hv; exact HCW.out.cell q5 (not_nob _)
          · cases hv; exact HCW.out.cell q6 (not_nob _)
          · cases hv; exact HCW.out.cell a0 (not_nob _)
          · cases hv; exact HCW.out.cell a1 (not_nob _)
          · cases hv; exact HCW.out.cell a2 (not_nob _)
          · cases hv; exact HCW.out.cell a3 (not_nob _)
          · cases hv; exact HCW.out.cell a4 (not_nob _)
          · cases hv; exact HCW.out.cell a5 (not_nob _)
          · cases hv; exact HCW.out.cell a6 (not_nob _)
          · cases hv; exact HCW.out.cell a7 (not_nob _)
          · cases hv; exact HCW.out.cell a8 (not_nob _)
          · cases hv; exact HCW.out.cell a9 (not_nob _)
          · cases hv; exact HCW.out.cell a10 (not_nob _)
          · simp at hv
        clear hs hat hlb hka q0 q1 q2 q3 q4 q5 q6 a0 a1 a2 a3 a4 a5 a6 a7 a8 a9 a10
        have hbx0 := heap_alloc_new wr (.cells #[.int .i64 0, .int .i64 0, .int .i64 0, .string ⟨#[]⟩, .string ⟨#[]⟩, .string ⟨#[]⟩, .bool false, .int .i64 0, .int .u64 0, .bool false, .int .i64 0, .string ⟨#[]⟩, .slice none 0 0, .slice none 0 0, .slice none 0 0, .slice none 0 0, .slice none 0 0, .slice none 0 0] 54)
        have hcx0 : Chg nob wr (wr.alloc (.cells #[.int .i64 0, .int .i64 0, .int .i64 0, .string ⟨#[]⟩, .string ⟨#[]⟩, .string ⟨#[]⟩, .bool false, .int .i64 0, .int .u64 0, .bool false, .int .i64 0, .string ⟨#[]⟩, .slice none 0 0, .slice none 0 0, .slice none 0 0, .slice none 0 0, .slice none 0 0, .slice none 0 0] 54)) := (Chg.refl nob wr).alloc _
        obtain ⟨wA, hwA⟩ : ∃ wA, wr.alloc (.cells #[.int .i64 0, .int .i64 0, .int .i64 0, .string ⟨#[]⟩, .string ⟨#[]⟩, .string ⟨#[]⟩, .bool false, .int .i64 0, .int .u64 0, .bool false, .int .i64 0, .string ⟨#[]⟩, .slice none 0 0, .slice none 0 0, .slice none 0 0, .slice none 0 0, .slice none 0 0, .slice none 0 0] 54) = wA := ⟨_, rfl⟩
        rw [hwA] at hbx0 hcx0
        obtain ⟨sb, hsb⟩ : ∃ sb, wr.heap.size = sb := ⟨_, rfl⟩
        rw [hsb] at hbx0
        have HTH := Lib.hid (there_row hbx0)
        have HONE : Hid ((#[.int .i64 s.1, .int .i64 s.2.1.1, .int .i64 s.2.1.2.1, .string s.2.1.2.2.1, .string s.2.1.2.2.2.1, .string s.2.1.2.2.2.2.1, .bool s.2.1.2.2.2.2.2, .int .i64 s.2.2.1, .int .u64 s.2.2.2.1, .bool s.2.2.2.2.1.1, .int .i64 s.2.2.2.2.1.2.1, .string s.2.2.2.2.1.2.2.1, .slice S nS sd, .slice Kx nK kd, .slice N nN nd, .slice I nI id, .slice E nE ed, .slice T nT td] : Array Value).all (·.oneCell') = true) := by show _ = _; simp [Value.oneCell']
        have hbx := row_stored (vs := #[.int .i64 s.1, .int .i64 s.2.1.1, .int .i64 s.2.1.2.1, .string s.2.1.2.2.1, .string s.2.1.2.2.2.1, .string s.2.1.2.2.2.2.1, .bool s.2.1.2.2.2.2.2, .int .i64 s.2.2.1, .int .u64 s.2.2.2.1, .bool s.2.2.2.2.1.1, .int .i64 s.2.2.2.2.1.2.1, .string s.2.2.2.2.1.2.2.1, .slice S nS sd, .slice Kx nK kd, .slice N nN nd, .slice I nI id, .slice E nE ed, .slice T nT td]) hbx0 rfl
        obtain ⟨wS, hwS⟩ : ∃ wS, wA.setCells sb 0 (#[.int .i64 s.1, .int .i64 s.2.1.1, .int .i64 s.2.1.2.1, .string s.2.1.2.2.1, .string s.2.1.2.2.2.1, .string s.2.1.2.2.2.2.1, .bool s.2.1.2.2.2.2.2, .int .i64 s.2.2.1, .int .u64 s.2.2.2.1, .bool s.2.2.2.2.1.1, .int .i64 s.2.2.2.2.1.2.1, .string s.2.2.2.2.1.2.2.1, .slice S nS sd, .slice Kx nK kd, .slice N nN nd, .slice I nI id, .slice E nE ed, .slice T nT td] : Array Value).toList = wS := ⟨_, rfl⟩
        have hcx1 : Chg (fun b => b = sb) wA (wA.setCells sb 0 (#[.int .i64 s.1, .int .i64 s.2.1.1, .int .i64 s.2.1.2.1, .string s.2.1.2.2.1, .string s.2.1.2.2.2.1, .string s.2.1.2.2.2.2.1, .bool s.2.1.2.2.2.2.2, .int .i64 s.2.2.1, .int .u64 s.2.2.2.1, .bool s.2.2.2.2.1.1, .int .i64 s.2.2.2.2.1.2.1, .string s.2.2.2.2.1.2.2.1, .slice S nS sd, .slice Kx nK kd, .slice N nN nd, .slice I nI id, .slice E nE ed, .slice T nT td] : Array Value).toList) := chg_setCells _ _ _
        rw [hwS] at hbx hcx1
        have hcx : Chg nob wr wS := hcx0.trans hcx1 (fun i hi => .inr (by have h : i = sb := hi; omega))
        have HWS := Lib.hid hwS
        clear hcx0 hcx1 hbx0 hwS
        go_upto_region 7 with (first
          | (refine wpList_load_mid rfl 54 (.tmp 28) rfl lb (lo + j * 18) rfl (#[.int .i64 s.1, .int .i64 s.2.1.1, .int .i64 s.2.1.2.1, .string s.2.1.2.2.1, .string s.2.1.2.2.2.1, .string s.2.1.2.2.2.2.1, .bool s.2.1.2.2.2.2.2, .int .i64 s.2.2.1, .int .u64 s.2.2.2.1, .bool s.2.2.2.2.1.1, .int .i64 s.2.2.2.2.1.2.1, .string s.2.2.2.2.1.2.2.1, .slice S nS sd, .slice Kx nK kd, .slice N nN nd, .slice I nI id, .slice E nE ed, .slice T nT td] : Array Value).toList _ HRNG.out Try.underlying54 rfl (by kernel_rfl) ?_)
          | (refine wpList_store_mid rfl 54 (.tmp 6) (.tmp 29) rfl sb 0 #[.int .i64 s.1, .int .i64 s.2.1.1, .int .i64 s.2.1.2.1, .string s.2.1.2.2.1, .string s.2.1.2.2.2.1, .string s.2.1.2.2.2.2.1, .bool s.2.1.2.2.2.2.2, .int .i64 s.2.2.1, .int .u64 s.2.2.2.1, .bool s.2.2.2.2.1.1, .int .i64 s.2.2.2.2.1.2.1, .string s.2.2.2.2.1.2.2.1, .slice S nS sd, .slice Kx nK kd, .slice N nN nd, .slice I nI id, .slice E nE ed, .slice T nT td] rfl rfl HTH.out (by kernel_rfl) HONE.out ?_))
        rw [HWS.out]
        clear hwA HWS HTH
        have HBX := Lib.hid hbx
        have HPS : Hid (PlSt w wS okl (fun b => b = sb) c g j) := by
          obtain ⟨own, rown, l, m, hd⟩ := HS.out.ex
          exact ⟨own, rown, l, m, (hd.more.imp (fun b hb => by have h : b = sb := hb; omega)).new hcx⟩
        have HCS := Lib.hid (HCW.out.thenNew hcx)
        have HSB : Hid (sb < wS.heap.size) := heap_lt hbx
        clear hcx HS
        obtain ⟨⟨x0, x1, x2, x3, x4, x5, x6⟩, x7, x8, x9, x10, x11, x12, x13, x14, x15, x16, x17⟩ := row18 hbx
        clear hbx
        go_upto_if 32 with fail
        go_cut [4] (fun v4 wx => ∃ g' : Nat, v4 = .pointer (some ⟨g', 0, none⟩) ∧ Hid (PlSt w wx okl (fun b => b = sb) c g' j) ∧ Hid (wx.heap[sb]? = some (.cells #[.int .i64 s.1, .int .i64 s.2.1.1, .int .i64 s.2.1.2.1, .string s.2.1.2.2.1, .string s.2.1.2.2.2.1, .string s.2.1.2.2.2.2.1, .bool s.2.1.2.2.2.2.2, .int .i64 s.2.2.1, .int .u64 s.2.2.2.1, .bool s.2.2.2.2.1.1, .int .i64 s.2.2.2.2.1.2.1, .string s.2.2.2.2.1.2.2.1, .slice S nS sd, .slice Kx nK kd, .slice N nN nd, .slice I nI id, .slice E nE ed, .slice T nT td] 54 (0, 0))) ∧ Hid (Chg nob w wx))
        case first =>
          by_cases hk1 : s.1 = 1
          · have c1 : (s.1 == 1) = true := by simpa using hk1
            clear hk1
            obtain ⟨own, rown, l, m, hd⟩ := HPS.out.ex
            have HD := Lib.hid hd
            clear hd
            go_wp2_with fail
            refine (ca_clear HD.out.cst).mono ?_
            rintro e w3 ⟨rfl, hst3, hc3⟩
            have HST3 := Lib.hid hst3
            have HC3 := Lib.hid hc3
            have HCW3 : Hid (Chg nob w w3) := HD.out.chg.trans hc3 (fun i hi => .inr (HD.out.own i hi).1)
            have HB3 := Lib.hid (hc3.heap HBX.out (fun e => (HD.out.own sb e).2.2.2 rfl))
            clear hst3 hc3 x0 x1 x2 x3 x4 x5 x6 x7 x8 x9 x10 x11 x12 x13 x14 x15 x16 x17
            go_wp2
            go_meet
            have hca : Chg nob w3 (w3.alloc (.cells #[.slice none 0 0, .slice none 0 0] 61)) := (Chg.refl nob w3).alloc _
            have hpl := PlD.cleared (okl := okl) HST3.out (fun b hb => ⟨(HD.out.own b hb).1, Nat.lt_of_lt_of_le (HD.out.own b hb).2.1 HC3.out.size, (HD.out.own b hb).2.2.2⟩) (fun b hb => by have h : b = sb := hb; rw [h]; exact heap_lt HB3.out) HCW3.out rfl hca (heap_alloc_new w3 _)
            exact ⟨w3.heap.size, rfl, ⟨_, _, _, _, ⟨hpl.cst, hpl.rst, hpl.own, hpl.rown, Nat.zero_le _, hpl.chg⟩⟩, hca.heap HB3.out (not_nob _), HCW3.out.thenNew hca⟩
          · have c1 : (s.1 == 1) = false := by simpa using hk1
            clear hk1
            go_wp2
            go_meet
            exact ⟨g, rfl, HPS, HBX, HCS⟩
        case rest =>
          obtain ⟨g1, rfl, HPS1, HBX1, HCS1⟩ := hcut
          clear x0 x1 x2 x3 x4 x5 x6 x7 x8 x9 x10 x11 x12 x13 x14 x15 x16 x17
          obtain ⟨⟨x0, x1, x2, x3, x4, x5, x6⟩, x7, x8, x9, x10, x11, x12, x13, x14, x15, x16, x17⟩ := row18 HBX1.out
          go_upto_region 10 with fail
          go_cut [54] (fun v wx => v = .bool false ∧ Hid (PlSt w wx okl (fun b => b = sb) c g1 (j + 1)) ∧ Hid (wx.heap[sb]? = some (.cells #[.int .i64 s.1, .int .i64 s.2.1.1, .int .i64 s.2.1.2.1, .string s.2.1.2.2.1, .string s.2.1.2.2.2.1, .string s.2.1.2.2.2.2.1, .bool s.2.1.2.2.2.2.2, .int .i64 s.2.2.1, .int .u64 s.2.2.2.1, .bool s.2.2.2.2.1.1, .int .i64 s.2.2.2.2.1.2.1, .string s.2.2.2.2.1.2.2.1, .slice S nS sd, .slice Kx nK kd, .slice N nN nd, .slice I nI id, .slice E nE ed, .slice T nT td] 54 (0, 0))))
          case first =>
            by_cases hk0 : s.1 = 0
            · have c1 : (s.1 == 0) = true := by simpa using hk0
              clear hk0
              obtain ⟨own, rown, l, m, hd⟩ := HPS1.out.ex
              have HD := Lib.hid hd
              have HDD := Lib.hid (hd.new (wy := wc.drew) ((Chg.refl nob wc).drew))
              have HSBX : Hid (∀ b, b = sb → b < wc.drew.heap.size) := fun b hb => by rw [hb]; exact heap_lt HBX1.out
              have HKD : Hid (ansK.K wc.drew okl s.2.2 (#[.int .i64 s.2.2.1, .int .u64 s.2.2.2.1, .bool s.2.2.2.2.1.1, .int .i64 s.2.2.2.2.1.2.1, .string s.2.2.2.2.1.2.2.1, .slice S nS sd, .slice Kx nK kd, .slice N nN nd, .slice I nI id, .slice E nE ed, .slice T nT td] : Array Value).toList) := Kd.chg HKA.out (HDD.out.chg) (fun b _ => not_nob b)
              have HML : Hid (m.length ≤ 1000) := by show _ ≤ _; rw [hd.mlen]; have := hd.len; omega
              have HLL : Hid (l.length ≤ 1000) := by show _ ≤ _; have := hd.len; omega
              clear hd x0 x1 x2 x3 x4 x5 x6 x7 x8 x9 x10 x11 x12 x13 x14 x15 x16 x17
              refine wp_region_held_drew (S := fun wx => wx.heap[sb]? = some (.cells #[.int .i64 s.1, .int .i64 s.2.1.1, .int .i64 s.2.1.2.1, .string s.2.1.2.2.1, .string s.2.1.2.2.2.1, .string s.2.1.2.2.2.2.1, .bool s.2.1.2.2.2.2.2, .int .i64 s.2.2.1, .int .u64 s.2.2.2.1, .bool s.2.2.2.2.1.1, .int .i64 s.2.2.2.2.1.2.1, .string s.2.2.2.2.1.2.2.1, .slice S nS sd, .slice Kx nK kd, .slice N nN nd, .slice I nI id, .slice E nE ed, .slice T nT td] 54 (0, 0))) (by kernel_rfl) (HBX1.out) (fun hHeld => ?_)
              refine wpAnyH_take (i := 0) (v := ?_) pick0 (by kernel_rfl) (by kernel_rfl) (by kernel_rfl) (fun _ _ _ h => h) (Or.inl ⟨by rfl, ?_⟩) (by assumption) ?_
              rotate_left 1
              · (intro wx hSw; go_simp; try with_reducible rfl)
              try simp only [Act.put, List.setIfInBounds_toArray, List.set_cons_zero, List.set_cons_succ]
              refine wpAnyH_take (i := 1) (v := ?_) (pickS pick0) (by kernel_rfl) (by kernel_rfl) (by kernel_rfl) (fun _ _ _ h => h) (Or.inl ⟨by rfl, ?_⟩) (by assumption) ?_
              rotate_left 1
              · (intro wx hSw; obtain ⟨⟨x0, x1, x2, x3, x4, x5, x6⟩, x7, x8, x9, x10, x11, x12, x13, x14, x15, x16, x17⟩ := row18 hSw; go_simp; try with_reducible rfl)
              try simp only [Act.put, List.setIfInBounds_toArray, List.set_cons_zero, List.set_cons_succ]
              refine wpAnyH_take (i := 2) (v := ?_) (pickS (pickS pick0)) (by kernel_rfl) (by kernel_rfl) (by kernel_rfl) (fun _ _ _ h => h) (Or.inl ⟨by rfl, ?_⟩) (by assumption) ?_
              rotate_left 1
              · (intro wx hSw; go_simp; try with_reducible rfl)
              try simp only [Act.put, List.setIfInBounds_toArray, List.set_cons_zero, List.set_cons_succ]
              refine wpAnyH_take (i := 3) (v := ?_) (pickS (pickS (pickS pick0))) (by kernel_rfl) (by kernel_rfl) (by kernel_rfl) (fun _ _ _ h => h) (Or.inl ⟨by rfl, ?_⟩) (by assumption) ?_
              rotate_left 1
              · (intro wx hSw; go_simp; try with_reducible rfl)
              try simp only [Act.put, List.setIfInBounds_toArray, List.set_cons_zero, List.set_cons_succ]
              refine wpAnyH_take (i := 4) (v := ?_) (pickS (pickS (pickS (pickS pick0)))) (by kernel_rfl) (by kernel_rfl) (by kernel_rfl) (fun _ _ _ h => h) (Or.inl ⟨by rfl, ?_⟩) (by assumption) ?_
              rotate_left 1
              · (intro wx hSw; go_simp; try with_reducible rfl)
              try simp only [Act.put, List.setIfInBounds_toArray, List.set_cons_zero, List.set_cons_succ]
              refine wpAnyH_take (i := 5) (v := ?_) (pickS (pickS (pickS (pickS (pickS pick0))))) (by kernel_rfl) (by kernel_rfl) (by kernel_rfl) (fun _ _ _ h => h) (Or.inl ⟨by rfl, ?_⟩) (by assumption) ?_
              rotate_left 1
              · (intro wx hSw; go_simp; try with_reducible rfl)
              try simp only [Act.put, List.setIfInBounds_toArray, List.set_cons_zero, List.set_cons_succ]
              refine wpAnyH_take (i := 6) (v := ?_) (pickS (pickS (pickS (pickS (pickS (pickS pick0)))))) (by kernel_rfl) (by kernel_rfl) (by kernel_rfl) (fun _ _ _ h => h) (Or.inl ⟨by rfl, ?_⟩) (by assumption) ?_
              rotate_left 1
              · (intro wx hSw; obtain ⟨⟨x0, x1, x2, x3, x4, x5, x6⟩, x7, x8, x9, x10, x11, x12, x13, x14, x15, x16, x17⟩ := row18 hSw; go_simp; try with_reducible rfl)
              try simp only [Act.put, List.setIfInBounds_toArray, List.set_cons_zero, List.set_cons_succ]
              refine wpAnyH_take (i := 7) (v := ?_) (pickS (pickS (pickS (pickS (pickS (pickS (pickS pick0))))))) (by kernel_rfl) (by kernel_rfl) (by kernel_rfl) (fun _ _ _ h => h) (Or.inl ⟨by rfl, ?_⟩) (by assumption) ?_
              rotate_left 1
              · (intro wx hSw; go_simp; try with_reducible rfl)
              try simp only [Act.put, List.setIfInBounds_toArray, List.set_cons_zero, List.set_cons_succ]
              refine wpAnyH_take (i := 8) (v := ?_) (pickS (pickS (pickS (pickS (pickS (pickS (pickS (pickS pick0)))))))) (by kernel_rfl) (by kernel_rfl) (by kernel_rfl) (fun _ _ _ h => h) (Or.inl ⟨by rfl, ?_⟩) (by assumption) ?_
              rotate_left 1
              · (intro wx hSw; obtain ⟨⟨x0, x1, x2, x3, x4, x5, x6⟩, x7, x8, x9, x10, x11, x12, x13, x14, x15, x16, x17⟩ := row18 hSw; go_simp; try with_reducible rfl)
              try simp only [Act.put, List.setIfInBounds_toArray, List.set_cons_zero, List.set_cons_succ]
              refine wpAnyH_take (i := 10) (v := ?_) (pickS (pickS (pickS (pickS (pickS (pickS (pickS (pickS (pickS (pickS pick0)))))))))) (by kernel_rfl) (by kernel_rfl) (by kernel_rfl) (fun _ _ _ h => h) (Or.inl ⟨by rfl, ?_⟩) (by assumption) ?_
              rotate_left 1
              · (intro wx hSw; go_simp; try with_reducible rfl)
              try simp only [Act.put, List.setIfInBounds_toArray, List.set_cons_zero, List.set_cons_succ]
              refine wpAnyH_take (i := 11) (v := ?_) (pickS (pickS (pickS (pickS (pickS (pickS (pickS (pickS (pickS (pickS (pickS pick0))))))))))) (by kernel_rfl) (by kernel_rfl) (by kernel_rfl) (fun _ _ _ h => h) (Or.inl ⟨by rfl, ?_⟩) (by assumption) ?_
              rotate_left 1
              · (intro wx hSw; go_simp; try with_reducible rfl)
              try simp only [Act.put, List.setIfInBounds_toArray, List.set_cons_zero, List.set_cons_succ]
              refine wpAnyH_take (i := 12) (v := ?_) (pickS (pickS (pickS (pickS (pickS (pickS (pickS (pickS (pickS (pickS (pickS (pickS pick0)))))))))))) (by kernel_rfl) (by kernel_rfl) (by kernel_rfl) (fun _ _ _ h => h) (Or.inl ⟨by rfl, ?_⟩) (by assumption) ?_
              rotate_left 1
              · (intro wx hSw; obtain ⟨⟨x0, x1, x2, x3, x4, x5, x6⟩, x7, x8, x9, x10, x11, x12, x13, x14, x15, x16, x17⟩ := row18 hSw; go_simp; try with_reducible rfl)
              try simp only [Act.put, List.setIfInBounds_toArray, List.set_cons_zero, List.set_cons_succ]
              refine wpAnyH_take (i := 13) (v := ?_) (pickS (pickS (pickS (pickS (pickS (pickS (pickS (pickS (pickS (pickS (pickS (pickS (pickS pick0))))))))))))) (by kernel_rfl) (by kernel_rfl) (by kernel_rfl) (fun _ _ _ h => h) (Or.inl ⟨by rfl, ?_⟩) (by assumption) ?_
              rotate_left 1
              · (intro wx hSw; go_simp; try with_reducible rfl)
              try simp only [Act.put, List.setIfInBounds_toArray, List.set_cons_zero, List.set_cons_succ]
              refine wpAnyH_take (i := 14) (v := ?_) (pickS (pickS (pickS (pickS (pickS (pickS (pickS (pickS (pickS (pickS (pickS (pickS (pickS (pickS pick0)))))))))))))) (by kernel_rfl) (by kernel_rfl) (by kernel_rfl) (fun _ _ _ h => h) (Or.inl ⟨by rfl, ?_⟩) (by assumption) ?_
              rotate_left 1
              · (intro wx hSw; obtain ⟨⟨x0, x1, x2, x3, x4, x5, x6⟩, x7, x8, x9, x10, x11, x12, x13, x14, x15, x16, x17⟩ := row18 hSw; go_simp; try with_reducible rfl)
              try simp only [Act.put, List.setIfInBounds_toArray, List.set_cons_zero, List.set_cons_succ]
              refine wpAnyH_ready (rs := [9]) (by kernel_rfl) (by simp) ?_
              refine AllReadyH.cons (pickS (pickS (pickS (pickS (pickS (pickS (pickS (pickS (pickS pick0))))))))) (fun K hK => ?_) AllReadyH.nil
              go_simp
              refine (ca_put HDD.out.cst (fun b hb => (HDD.out.own b hb).2.1) (fun b hb => (HDD.out.rown b hb).2.1) HLL.out HKD.out (fun b hb => ⟨fun h => h.elim (fun h => by have h2 := HOK.out b hb; have := (HDD.out.own b h).1; omega) (fun h => by have h2 := HOK.out b hb; have := (HDD.out.rown b h).1; omega), Nat.lt_of_lt_of_le (HOK.out b hb) HDD.out.chg.size⟩) s.2.1 HSZ.out).mono ?_
              rintro e w5 ⟨rfl, hp⟩
              have HP := Lib.hid hp
              have HC5 : Hid (Chg own wc.drew w5) := by obtain ⟨own', h1, h2, h3, h4, h5⟩ := hp.ex; exact h2
              have HB5 := Lib.hid (HC5.out.heap hHeld (fun e => (HDD.out.own sb e).2.2.2 rfl))
              obtain ⟨pb, hpb⟩ : ∃ pb, putOk l s.2.1 s.2.2 = pb := ⟨_, rfl⟩
              have HPB := Lib.hid hpb
              rw [hpb]
              clear hp hpb
              go_wp2_with fail
              refine hK.out _ _ (HB5.out) (fun hHeld => ?_)
              clear hK K
              try simp only [Act.put, List.setIfInBounds_toArray, List.set_cons_zero, List.set_cons_succ]
              refine wpAnyH_ready (rs := [15]) (by kernel_rfl) (by simp) ?_
              refine AllReadyH.cons (pickS (pickS (pickS (pickS (pickS (pickS (pickS (pickS (pickS (pickS (pickS (pickS (pickS (pickS (pickS pick0))))))))))))))) (fun K hK => ?_) AllReadyH.nil
              go_simp
              refine (rf_put (HDD.out.rst.chg HC5.out (fun b hb e => (HDD.out.own b e).2.2.1 hb) (fun b hb e => by have := HOK.out b hb; have := (HDD.out.own b e).1; omega)) (fun b hb => Nat.lt_of_lt_of_le (HDD.out.rown b hb).2.1 HC5.out.size) HML.out (fun b hb => ⟨fun e => by have := HOK.out b hb; have := (HDD.out.rown b e).1; omega, Nat.lt_of_lt_of_le (HOK.out b hb) (Nat.le_trans HDD.out.chg.size HC5.out.size)⟩) (Kd.chg HKD.out HC5.out (fun b hb e => by have := HOK.out b hb; have := (HDD.out.own b e).1; omega)) s.2.1 HSZ.out).mono ?_
              rintro e w6 ⟨rfl, hp⟩
              rw [HPB.out]
              have HPL : Hid (PlSt w w6 okl (fun b => b = sb) c g1 (j + 1)) := PlD.put HSBX.out HOK.out HDD.out (putL_len l _ _) HP.out hp
              have HB6 : Hid (w6.heap[sb]? = some (.cells #[.int .i64 s.1, .int .i64 s.2.1.1, .int .i64 s.2.1.2.1, .string s.2.1.2.2.1, .string s.2.1.2.2.2.1, .string s.2.1.2.2.2.2.1, .bool s.2.1.2.2.2.2.2, .int .i64 s.2.2.1, .int .u64 s.2.2.2.1, .bool s.2.2.2.2.1.1, .int .i64 s.2.2.2.2.1.2.1, .string s.2.2.2.2.1.2.2.1, .slice S nS sd, .slice Kx nK kd, .slice N nN nd, .slice I nI id, .slice E nE ed, .slice T nT td] 54 (0, 0))) := by obtain ⟨rown', m', h1, h2, h3, h4, h5, h6⟩ := hp.ex; exact h3.heap hHeld (fun e => (HDD.out.rown sb e).2.2 rfl)
              clear hp
              go_wp2_with fail
              refine hK.out _ _ (HB6.out) (fun hHeld => ?_)
              clear hK K
              try simp only [Act.put, List.setIfInBounds_toArray, List.set_cons_zero, List.set_cons_succ]
              refine wpAnyH_take (i := 16) (v := ?_) (pickS (pickS (pickS (pickS (pickS (pickS (pickS (pickS (pickS (pickS (pickS (pickS (pickS (pickS (pickS (pickS pick0)))))))))))))))) (by kernel_rfl) (by kernel_rfl) (by kernel_rfl) (fun _ _ _ h => h) (Or.inl ⟨by rfl, ?_⟩) (by assumption) ?_
              rotate_left 1
              · (intro wx hSw; go_simp; try with_reducible rfl)
              try simp only [Act.put, List.setIfInBounds_toArray, List.set_cons_zero, List.set_cons_succ]
              refine wpAnyH_take (i := 17) (v := ?_) (pickS (pickS (pickS (pickS (pickS (pickS (pickS (pickS (pickS (pickS (pickS (pickS (pickS (pickS (pickS (pickS (pickS pick0))))))))))))))))) (by kernel_rfl) (by kernel_rfl) (by kernel_rfl) (fun _ _ _ h => h) (Or.inl ⟨by rfl, ?_⟩) (by assumption) ?_
              rotate_left 1
              · (intro wx hSw; go_simp; try with_reducible rfl)
              try simp only [Act.put, List.setIfInBounds_toArray, List.set_cons_zero, List.set_cons_succ]
              refine wpAnyH_done (by kernel_rfl) ?_ _
              go_wp2
              go_meet
              exact ⟨by simp, HPL, HB6⟩
            · have c1 : (s.1 == 0) = false := by simpa using hk0
              clear hk0
              go_quiet (fail)
              go_wp2
              go_meet
              refine ⟨rfl, ?_, ?_⟩
              · obtain ⟨own, rown, l, m, hd⟩ := HPS1.out.ex
                exact ⟨own, rown, l, m, hd.succ.new ((Chg.refl nob wc).drewN _)⟩
              · exact HBX1.out
          case rest =>
            obtain ⟨rfl, HPS2, HBX2⟩ := hcut
            clear x0 x1 x2 x3 x4 x5 x6 x7 x8 x9 x10 x11 x12 x13 x14 x15 x16 x17
            obtain ⟨own, rown, l, m, hd⟩ := HPS2.out.ex
            have HD := Lib.hid hd
            have HML : Hid (m.length ≤ 1000) := by show _ ≤ _; rw [hd.mlen]; have := hd.len; omega
            have HLL : Hid (l.length ≤ 1000) := by show _ ≤ _; have := hd.len; omega
            clear hd HPS HPS1 HBX HBX1 HPS2
            obtain ⟨y, hy⟩ : ∃ y, (seekA l s.2.1).getD zeroA = y := ⟨_, rfl⟩
            obtain ⟨bo, hbo⟩ : ∃ bo, (seekA l s.2.1).isSome = bo := ⟨_, rfl⟩
            have hbb : (bo != bo) = false := by simp
            have HY := Lib.hid hy
            have HBO := Lib.hid hbo
            clear hy hbo
            obtain ⟨⟨x0, x1, x2, x3, x4, x5, x6⟩, x7, x8, x9, x10, x11, x12, x13, x14, x15, x16, x17⟩ := row18 HBX2.out
            go_wp2_with fail
            refine (ca_get HD.out.cst s.2.1).mono ?_
            rintro e v1 ⟨cs1, rfl, hcp, hc1⟩
            rw [HY.out] at hcp
            rw [HBO.out]
            obtain ⟨S1, mS1, sd1, K1, mK1, kd1, N1, mN1, nd1, I1, mI1, id1, E1, mE1, ed1, T1, mT1, td1, hl1⟩ := ans_lits hcp.K
            subst hl1
            have HK1 := Lib.hid hcp.K
            have HD1 := Lib.hid (HD.out.new hc1)
            have HB1 := Lib.hid (hc1.heap HBX2.out (not_nob _))
            clear hcp hc1 x0 x1 x2 x3 x4 x5 x6 x7 x8 x9 x10 x11 x12 x13 x14 x15 x16 x17
            have hxA := heap_alloc_new v1 (.cells #[.int .i64 y.1, .int .u64 y.2.1, .bool y.2.2.1.1, .int .i64 y.2.2.1.2.1, .string y.2.2.1.2.2.1, .slice S1 mS1 sd1, .slice K1 mK1 kd1, .slice N1 mN1 nd1, .slice I1 mI1 id1, .slice E1 mE1 ed1, .slice T1 mT1 td1] 32)
            have hcA : Chg nob v1 (v1.alloc (.cells #[.int .i64 y.1, .int .u64 y.2.1, .bool y.2.2.1.1, .int .i64 y.2.2.1.2.1, .string y.2.2.1.2.2.1, .slice S1 mS1 sd1, .slice K1 mK1 kd1, .slice N1 mN1 nd1, .slice I1 mI1 id1, .slice E1 mE1 ed1, .slice T1 mT1 td1] 32)) := (Chg.refl nob v1).alloc _
            go_upto_region 13 with fail
            obtain ⟨v2, hv2⟩ : ∃ v2, v1.alloc (.cells #[.int .i64 y.1, .int .u64 y.2.1, .bool y.2.2.1.1, .int .i64 y.2.2.1.2.1, .string y.2.2.1.2.2.1, .slice S1 mS1 sd1, .slice K1 mK1 kd1, .slice N1 mN1 nd1, .slice I1 mI1 id1, .slice E1 mE1 ed1, .slice T1 mT1 td1] 32) = v2 := ⟨_, rfl⟩
            rw [hv2] at hxA hcA ⊢
            obtain ⟨ya, hya⟩ : ∃ ya, v1.heap.size = ya := ⟨_, rfl⟩
            rw [hya] at hxA ⊢
            have HXA := Lib.hid hxA
            have HD2 := Lib.hid (HD1.out.new hcA)
            have HB2 := Lib.hid (hcA.heap HB1.out (not_nob _))
            have HK2 := Lib.hid (Kd.chg HK1.out hcA (fun b _ => not_nob b))
            clear hxA hcA hv2 hya
            obtain ⟨⟨x0, x1, x2, x3, x4, x5, x6⟩, x7, x8, x9, x10, x11, x12, x13, x14, x15, x16, x17⟩ := row18 HB2.out
            go_wp2_with fail
            refine (rf_get HD2.out.rst HML.out (fun b hb => Nat.lt_of_lt_of_le (HOK.out b hb) HD2.out.chg.size) s.2.1).mono ?_
            rintro e v3 ⟨cs2, rfl, hk3, hc3⟩
            rw [HY.out] at hk3
            rw [HBO.out]
            obtain ⟨S2, mS2, sd2, K2, mK2, kd2, N2, mN2, nd2, I2, mI2, id2, E2, mE2, ed2, T2, mT2, td2, hl2⟩ := ans_lits hk3
            subst hl2
            have HK3 := Lib.hid hk3
            have HD3 := Lib.hid (HD2.out.new hc3)
            have HB3 := Lib.hid (hc3.heap HB2.out (not_nob _))
            have HXA3 := Lib.hid (hc3.heap HXA.out (not_nob _))
            have HK23 := Lib.hid (Kd.chg HK2.out hc3 (fun b _ => not_nob b))
            clear hk3 hc3 x0 x1 x2 x3 x4 x5 x6 x7 x8 x9 x10 x11 x12 x13 x14 x15 x16 x17
            have hxB := heap_alloc_new v3 (.cells #[.int .i64 y.1, .int .u64 y.2.1, .bool y.2.2.1.1, .int .i64 y.2.2.1.2.1, .string y.2.2.1.2.2.1, .slice S2 mS2 sd2, .slice K2 mK2 kd2, .slice N2 mN2 nd2, .slice I2 mI2 id2, .slice E2 mE2 ed2, .slice T2 mT2 td2] 32)
            have hcB : Chg nob v3 (v3.alloc (.cells #[.int .i64 y.1, .int .u64 y.2.1, .bool y.2.2.1.1, .int .i64 y.2.2.1.2.1, .string y.2.2.1.2.2.1, .slice S2 mS2 sd2, .slice K2 mK2 kd2, .slice N2 mN2 nd2, .slice I2 mI2 id2, .slice E2 mE2 ed2, .slice T2 mT2 td2] 32)) := (Chg.refl nob v3).alloc _
            go_upto_region 14 with fail
            obtain ⟨v4, hv4⟩ : ∃ v4, v3.alloc (.cells #[.int .i64 y.1, .int .u64 y.2.1, .bool y.2.2.1.1, .int .i64 y.2.2.1.2.1, .string y.2.2.1.2.2.1, .slice S2 mS2 sd2, .slice K2 mK2 kd2, .slice N2 mN2 nd2, .slice I2 mI2 id2, .slice E2 mE2 ed2, .slice T2 mT2 td2] 32) = v4 := ⟨_, rfl⟩
            rw [hv4] at hxB hcB ⊢
            obtain ⟨yb, hyb⟩ : ∃ yb, v3.heap.size = yb := ⟨_, rfl⟩
            rw [hyb] at hxB ⊢
            have HXB := Lib.hid hxB
            have HD4 := Lib.hid (HD3.out.new hcB)
            have HB4 := Lib.hid (hcB.heap HB3.out (not_nob _))
            have HXA4 := Lib.hid (hcB.heap HXA3.out (not_nob _))
            have HK24 := Lib.hid (Kd.chg HK23.out hcB (fun b _ => not_nob b))
            have HK34 := Lib.hid (Kd.chg HK3.out hcB (fun b _ => not_nob b))
            clear hxB hcB hv4 hyb
            refine wp_region_held_drew (S := fun wx => Chg nob v4 wx) (by kernel_rfl) ((Chg.refl nob v4).drew) (fun hHeld => ?_)
            refine wpAnyH_take (i := 0) (v := ?_) pick0 (by kernel_rfl) (by kernel_rfl) (by kernel_rfl) (fun _ _ _ h => h) (Or.inl ⟨by rfl, ?_⟩) (by assumption) ?_
            rotate_left 1
            · (intro wx hSw; go_simp; try with_reducible rfl)
            try simp only [Act.put, List.setIfInBounds_toArray, List.set_cons_zero, List.set_cons_succ]
            refine wpAnyH_take (i := 1) (v := ?_) (pickS pick0) (by kernel_rfl) (by kernel_rfl) (by kernel_rfl) (fun _ _ _ h => h) (Or.inl ⟨by rfl, ?_⟩) (by assumption) ?_
            rotate_left 1
            · (intro wx hSw; go_simp; try with_reducible rfl)
            try simp only [Act.put, List.setIfInBounds_toArray, List.set_cons_zero, List.set_cons_succ]
            refine wpAnyH_take (i := 2) (v := ?_) (pickS (pickS pick0)) (by kernel_rfl) (by kernel_rfl) (by kernel_rfl) (fun _ _ _ h => h) (Or.inl ⟨by rfl, ?_⟩) (by assumption) ?_
            rotate_left 1
            · (intro wx hSw; go_simp; try with_reducible rfl)
            try simp only [Act.put, List.setIfInBounds_toArray, List.set_cons_zero, List.set_cons_succ]
            refine wpAnyH_take (i := 3) (v := ?_) (pickS (pickS (pickS pick0))) (by kernel_rfl) (by kernel_rfl) (by kernel_rfl) (fun _ _ _ h => h) (Or.inl ⟨by rfl, ?_⟩) (by assumption) ?_
            rotate_left 1
            · (intro wx hSw; go_simp; try with_reducible rfl)
            try simp only [Act.put, List.setIfInBounds_toArray, List.set_cons_zero, List.set_cons_succ]
            refine wpAnyH_take (i := 4) (v := ?_) (pickS (pickS (pickS (pickS pick0)))) (by kernel_rfl) (by kernel_rfl) (by kernel_rfl) (fun _ _ _ h => h) (Or.inl ⟨by rfl, ?_⟩) (by assumption) ?_
            rotate_left 1
            · (intro wx hSw; obtain ⟨⟨z0, z1, z2, z3, z4, z5, z6, z7, z8, z9, z10⟩, zf⟩ := row11c (hSw.heap HXA4.out (not_nob _)); go_simp; try with_reducible rfl)
            try simp only [Act.put, List.setIfInBounds_toArray, List.set_cons_zero, List.set_cons_succ]
            refine wpAnyH_take (i := 5) (v := ?_) (pickS (pickS (pickS (pickS (pickS pick0))))) (by kernel_rfl) (by kernel_rfl) (by kernel_rfl) (fun _ _ _ h => h) (Or.inl ⟨by rfl, ?_⟩) (by assumption) ?_
            rotate_left 1
            · (intro wx hSw; obtain ⟨⟨z0, z1, z2, z3, z4, z5, z6, z7, z8, z9, z10⟩, zf⟩ := row11c (hSw.heap HXB.out (not_nob _)); go_simp; try with_reducible rfl)
            try simp only [Act.put, List.setIfInBounds_toArray, List.set_cons_zero, List.set_cons_succ]
            refine wpAnyH_ready (rs := [6]) (by kernel_rfl) (by simp) ?_
            refine AllReadyH.cons (pickS (pickS (pickS (pickS (pickS (pickS pick0)))))) (fun K hK => ?_) AllReadyH.nil
            go_simp
            refine (r_sameA (Kd.chg HK24.out hHeld (fun b _ => not_nob b)) (Kd.chg HK34.out hHeld (fun b _ => not_nob b))).mono ?_
            rintro e v5 ⟨rfl, hc5⟩
            have HC5 := Lib.hid (hHeld.thenNew hc5)
            clear hc5
            go_wp2_with fail
            refine hK.out _ _ (HC5.out) (fun hHeld => ?_)
            clear hK K
            try simp only [Act.put, List.setIfInBounds_toArray, List.set_cons_zero, List.set_cons_succ]
            refine wpAnyH_take (i := 7) (v := ?_) (pickS (pickS (pickS (pickS (pickS (pickS (pickS pick0))))))) (by kernel_rfl) (by kernel_rfl) (by kernel_rfl) (fun _ _ _ h => h) (Or.inl ⟨by rfl, ?_⟩) (by assumption) ?_
            rotate_left 1
            · (intro wx hSw; go_simp; try with_reducible rfl)
            try simp only [Act.put, List.setIfInBounds_toArray, List.set_cons_zero, List.set_cons_succ]
            refine wpAnyH_take (i := 8) (v := ?_) (pickS (pickS (pickS (pickS (pickS (pickS (pickS (pickS pick0)))))))) (by kernel_rfl) (by kernel_rfl) (by kernel_rfl) (fun _ _ _ h => h) (Or.inl ⟨by rfl, ?_⟩) (by assumption) ?_
            rotate_left 1
            · (intro wx hSw; go_simp; try with_reducible rfl)
            try simp only [Act.put, List.setIfInBounds_toArray, List.set_cons_zero, List.set_cons_succ]
            refine wpAnyH_take (i := 9) (v := ?_) (pickS (pickS (pickS (pickS (pickS (pickS (pickS (pickS (pickS pick0))))))))) (by kernel_rfl) (by kernel_rfl) (by kernel_rfl) (fun _ _ _ h => h) (Or.inl ⟨by rfl, ?_⟩) (by assumption) ?_
            rotate_left 1
            · (intro wx hSw; go_simp; try with_reducible rfl)
            try simp only [Act.put, List.setIfInBounds_toArray, List.set_cons_zero, List.set_cons_succ]
            refine wpAnyH_take (i := 10) (v := ?_) (pickS (pickS (pickS (pickS (pickS (pickS (pickS (pickS (pickS (pickS pick0)))))))))) (by kernel_rfl) (by kernel_rfl) (by kernel_rfl) (fun _ _ _ h => h) (Or.inl ⟨by rfl, ?_⟩) (by assumption) ?_
            rotate_left 1
            · (intro wx hSw; go_simp; try with_reducible rfl)
            try simp only [Act.put, List.setIfInBounds_toArray, List.set_cons_zero, List.set_cons_succ]
            refine wpAnyH_take (i := 11) (v := ?_) (pickS (pickS (pickS (pickS (pickS (pickS (pickS (pickS (pickS (pickS (pickS pick0))))))))))) (by kernel_rfl) (by kernel_rfl) (by kernel_rfl) (fun _ _ _ h => h) (Or.inl ⟨by rfl, ?_⟩) (by assumption) ?_
            rotate_left 1
            · (intro wx hSw; go_simp; try with_reducible rfl)
            try simp only [Act.put, List.setIfInBounds_toArray, List.set_cons_zero, List.set_cons_succ]
            refine wpAnyH_take (i := 12) (v := ?_) (pickS (pickS (pickS (pickS (pickS (pickS (pickS (pickS (pickS (pickS (pickS (pickS pick0)))))))))))) (by kernel_rfl) (by kernel_rfl) (by kernel_rfl) (fun _ _ _ h => h) (Or.inl ⟨by rfl, ?_⟩) (by assumption) ?_
            rotate_left 1
            · (intro wx hSw; obtain ⟨⟨x0, x1, x2, x3, x4, x5, x6⟩, x7, x8, x9, x10, x11, x12, x13, x14, x15, x16, x17⟩ := row18 (hSw.heap HB4.out (not_nob _)); go_simp; try with_reducible rfl)
            try simp only [Act.put, List.setIfInBounds_toArray, List.set_cons_zero, List.set_cons_succ]
            refine wpAnyH_take (i := 14) (v := ?_) (pickS (pickS (pickS (pickS (pickS (pickS (pickS (pickS (pickS (pickS (pickS (pickS (pickS (pickS pick0)))))))))))))) (by kernel_rfl) (by kernel_rfl) (by kernel_rfl) (fun _ _ _ h => h) (Or.inl ⟨by rfl, ?_⟩) (by assumption) ?_
            rotate_left 1
            · (intro wx hSw; go_simp; try with_reducible rfl)
            try simp only [Act.put, List.setIfInBounds_toArray, List.set_cons_zero, List.set_cons_succ]
            refine wpAnyH_take (i := 15) (v := ?_) (pickS (pickS (pickS (pickS (pickS (pickS (pickS (pickS (pickS (pickS (pickS (pickS (pickS (pickS (pickS pick0))))))))))))))) (by kernel_rfl) (by kernel_rfl) (by kernel_rfl) (fun _ _ _ h => h) (Or.inl ⟨by rfl, ?_⟩) (by assumption) ?_
            rotate_left 1
            · (intro wx hSw; obtain ⟨⟨z0, z1, z2, z3, z4, z5, z6, z7, z8, z9, z10⟩, zf⟩ := row11c (hSw.heap HXB.out (not_nob _)); go_simp; try with_reducible rfl)
            try simp only [Act.put, List.setIfInBounds_toArray, List.set_cons_zero, List.set_cons_succ]
            refine wpAnyH_ready (rs := [13]) (by kernel_rfl) (by simp) ?_
            refine AllReadyH.cons (pickS (pickS (pickS (pickS (pickS (pickS (pickS (pickS (pickS (pickS (pickS (pickS (pickS pick0))))))))))))) (fun K hK => ?_) AllReadyH.nil
            go_simp
            refine (ca_index (HD4.out.cst.new hHeld) s.2.1).mono ?_
            rintro e v6 ⟨rfl, hc6⟩
            rw [HY.out]
            have HC6 := Lib.hid (hHeld.thenNew hc6)
            clear hc6
            go_wp2_with fail
            refine hK.out _ _ (HC6.out) (fun hHeld => ?_)
            clear hK K
            try simp only [Act.put, List.setIfInBounds_toArray, List.set_cons_zero, List.set_cons_succ]
            refine wpAnyH_take (i := 16) (v := ?_) (pickS (pickS (pickS (pickS (pickS (pickS (pickS (pickS (pickS (pickS (pickS (pickS (pickS (pickS (pickS (pickS pick0)))))))))))))))) (by kernel_rfl) (by kernel_rfl) (by kernel_rfl) (fun _ _ _ h => h) (Or.inl ⟨by rfl, ?_⟩) (by assumption) ?_
            rotate_left 1
            · (intro wx hSw; go_simp; try with_reducible rfl)
            try simp only [Act.put, List.setIfInBounds_toArray, List.set_cons_zero, List.set_cons_succ]
            refine wpAnyH_take (i := 17) (v := ?_) (pickS (pickS (pickS (pickS (pickS (pickS (pickS (pickS (pickS (pickS (pickS (pickS (pickS (pickS (pickS (pickS (pickS pick0))))))))))))))))) (by kernel_rfl) (by kernel_rfl) (by kernel_rfl) (fun _ _ _ h => h) (Or.inl ⟨by rfl, ?_⟩) (by assumption) ?_
            rotate_left 1
            · (intro wx hSw; go_simp; try with_reducible rfl)
            try simp only [Act.put, List.setIfInBounds_toArray, List.set_cons_zero, List.set_cons_succ]
            refine wpAnyH_done (by kernel_rfl) ?_ _
            have HD6 := Lib.hid (HD4.out.new HC6.out)
            go_wp2_with fail
            refine (ca_list HD6.out.cst HLL.out).mono ?_
            rintro e v7 ⟨A7, c7, rfl, hl7, hR7, hc7⟩
            have HD7 := Lib.hid (HD6.out.new hc7)
            obtain ⟨q7, hq7⟩ : ∃ q7, (l.map Prod.fst).length = q7 := ⟨_, rfl⟩
            rw [hq7] at hR7 ⊢
            have HQ7 := Lib.hid hq7
            have hq1000 : q7 ≤ 1000 := by have := HLL.out; rw [← hq7, List.length_map]; exact this
            have HR7 := Lib.hid (Kd.R_read hR7).1
            obtain ⟨⟨OQ, cq, OA, ca, t1, t2, t3, t4, t5⟩, t6⟩ := HD7.out.rst.row
            rw [HD7.out.rst.ents.keys] at t1 t2
            rw [hq7] at t1 t2
            have HT2 := Lib.hid (Kd.R_read t2).1
            have HT1 := Lib.hid t1
            obtain ⟨d0, d1, -⟩ := row2 t1
            have hqn : ((q7 : Int) != (q7 : Int)) = false := by simp
            clear hR7 hc7 hl7 t1 t2 t3 t4 t5 t6 hq7
            go_wp2
            go_loopw [12] (fun i wy => ∃ k : Nat, k ≤ q7 ∧ i = .int .i64 k ∧ Hid (Chg nob v7 wy)) (fun i _ => q7 - (intOf i).toNat)
            case atStart => exact ⟨0, Nat.zero_le _, rfl, Chg.refl _ _⟩
            case round =>
              obtain ⟨k, hk, rfl, HW⟩ := hrel
              clear d0 d1
              obtain ⟨d0, d1, -⟩ := row2 (HW.out.heap HT1.out (not_nob _))
              by_cases hlt2 : k < q7
              · have i1 : (k : Int) < (q7 : Int) := by omega
                have i2 : (0 : Int) ≤ (k : Int) := by omega
                obtain ⟨p, hp⟩ : ∃ p, (l.map Prod.fst)[k]? = some p := ⟨_, List.getElem?_eq_getElem (by rw [HQ7.out]; exact hlt2)⟩
                obtain ⟨b1, o1, p1, rfl, _, hk1, hcA⟩ := Kd.C_at' (Kd.C_new HR7.out HW.out) hp
                obtain ⟨b2, o2, p2, rfl, _, hk2, hcB⟩ := Kd.C_at' (Kd.C_new HT2.out HW.out) hp
                have hk1' := qry_cells hk1
                have hk2' := qry_cells hk2
                subst hk1' hk2'
                have e0 : wr.cell? ⟨b1, o1 + k * 6, none⟩ = some (.int .i64 p.1) := hcA 0 _ rfl
                have e1 : wr.cell? ⟨b1, o1 + k * 6 + 1, none⟩ = some (.int .i64 p.2.1) := hcA 1 _ rfl
                have e2 : wr.cell? ⟨b1, o1 + k * 6 + 2, none⟩ = some (.string p.2.2.1) := hcA 2 _ rfl
                have e3 : wr.cell? ⟨b1, o1 + k * 6 + 3, none⟩ = some (.string p.2.2.2.1) := hcA 3 _ rfl
                have e4 : wr.cell? ⟨b1, o1 + k * 6 + 4, none⟩ = some (.string p.2.2.2.2.1) := hcA 4 _ rfl
                have e5 : wr.cell? ⟨b1, o1 + k * 6 + 5, none⟩ = some (.bool p.2.2.2.2.2) := hcA 5 _ rfl
                have f0 : wr.cell? ⟨b2, o2 + k * 6, none⟩ = some (.int .i64 p.1) := hcB 0 _ rfl
                have f1 : wr.cell? ⟨b2, o2 + k * 6 + 1, none⟩ = some (.int .i64 p.2.1) := hcB 1 _ rfl
                have f2 : wr.cell? ⟨b2, o2 + k * 6 + 2, none⟩ = some (.string p.2.2.1) := hcB 2 _ rfl
                have f3 : wr.cell? ⟨b2, o2 + k * 6 + 3, none⟩ = some (.string p.2.2.2.1) := hcB 3 _ rfl
                have f4 : wr.cell? ⟨b2, o2 + k * 6 + 4, none⟩ = some (.string p.2.2.2.2.1) := hcB 4 _ rfl
                have f5 : wr.cell? ⟨b2, o2 + k * 6 + 5, none⟩ = some (.bool p.2.2.2.2.2) := hcB 5 _ rfl
                have hneq : ∀ wx, (binOp .neq 34 (.agg #[.int .i64 p.1, .int .i64 p.2.1, .string p.2.2.1, .string p.2.2.2.1, .string p.2.2.2.2.1, .bool p.2.2.2.2.2]) (.agg #[.int .i64 p.1, .int .i64 p.2.1, .string p.2.2.1, .string p.2.2.2.1, .string p.2.2.2.2.1, .bool p.2.2.2.2.2])).run Try.prog wx = .ok (.bool false) wx := by
                  intro wx
                  have := neqQry p p wx
                  rw [qEq_self] at this
                  exact this
                clear hp hk1 hk2 hcA hcB
                go_wp2
                go_quiet (fail)
                go_wp2
                exact ⟨⟨k + 1, by omega, by go_num, Lib.hid (HW.out.drewN _)⟩, by simp [intOf]; omega⟩
              · obtain rfl : k = q7 := by omega
                have i1 : ¬ (k : Int) < (k : Int) := by omega
                have HD8 := Lib.hid ((HD7.out.new HW.out).imp (Y := nob) (fun b hb => hb.elim))
                go_wp2
                go_roundw
                case rel => exact ⟨j + 1, g1, by omega, by omega, rfl, by go_num, own, rown, l, m, HD8.out⟩
                case measure => simp [intOf]; omega
      · obtain rfl : j = 60 := by omega
        go_wp2_with fail
        refine (cache_works wr).mono ?_
        rintro e w9 ⟨rfl, hc9⟩
        have HC9 : Hid (Chg nob w w9) := by obtain ⟨own, rown, l, m, hd⟩ := HS.out.ex; exact hd.chg.thenNew hc9
        clear hc9
        go_wp2
        go_ret
        exact ⟨rfl, HC9.out⟩
    · obtain rfl : j = n := by omega
      have b1 : ¬ (j : Int) < (j : Int) := by omega
      go_wp2_with fail
      refine (cache_works wr).mono ?_
      rintro e w9 ⟨rfl, hc9⟩
      have HC9 : Hid (Chg nob w w9) := by obtain ⟨own, rown, l, m, hd⟩ := HS.out.ex; exact hd.chg.thenNew hc9
      clear hc9
      go_wp2
      go_ret
      exact ⟨rfl, HC9.out⟩
#print axioms cachePlays_walk
end Go.Proofs.Ytkclceghhebfaaa
