/- Messages: what a call of the reference's Get tells. -/
import Derived.Test.YtmahjeafoogamaaSpeechGet
import Derived.Deep.CutRange
import Derived.Deep.DeepCutAuto
import Derived.Outline
namespace Go.Proofs.Ytmahjeafoogamaa
open Go.RowKit
set_option linter.unusedVariables false
set_option linter.unusedSimpArgs false
/-- The reference's reader at g and a message at gm; D: the first block that is not older than both. -/
structure RfSt (D : Nat) (w : World) (ok : Nat → Prop) (g gm : Nat) (s : Ms × List UInt8 × Nat) : Prop where
  rd : IsRef w ok g s.2.1 s.2.2
  row : w.heap[gm]? = some (.cells (msV s.1 none 0 0) 25 (0, 0))
  nous : s.1.2.2.2.2.2 = []
  gm : ¬ ok gm ∧ gm ≠ g ∧ gm < D ∧ g < D
  lt : D ≤ w.heap.size
  oks : ∀ k, ok k → k < D
/-- Behind the last field. -/
structure FnSt (D : Nat) (w0 w : World) (ok : Nat → Prop) (g gm : Nat) (s : Ms × List UInt8 × Nat) : Prop where
  rd : IsRef w ok g s.2.1 s.2.2
  row : ∃ B n d, w.heap[gm]? = some (.cells (msV s.1 B n d) 25 (0, 0)) ∧ s.1.2.2.2.2.2.length = n ∧ n ≤ d ∧ updK.C w (fun b => D ≤ b) B s.1.2.2.2.2.2
  chg : Chg (TkC g gm) w0 w
section
variable {D : Nat} {w w' : World} {ok : Nat → Prop} {g gm : Nat} {s : Ms × List UInt8 × Nat}
theorem RfSt.call {bs : List UInt8} {e : Nat} (h : RfSt D w ok g gm s) (hr : IsRef w' ok g bs e) (hc : Chg (At (some ⟨g, 0, none⟩)) w w') : RfSt D w' ok g gm (s.1, bs, e) :=
  ⟨hr, hc.heap h.row (fun k => h.gm.2.1 (at_eq k)), h.nous, h.gm, Nat.le_trans h.lt hc.size, h.oks⟩
theorem RfSt.set (h : RfSt D w ok g gm s) (j : Nat) (v : Value) (m : Ms) (hm : m.2.2.2.2.2 = s.1.2.2.2.2.2) (hv : w.heap[gm]? = some (.cells (msV s.1 none 0 0) 25 (0, 0)) → (w.setCell ⟨gm, j, none⟩ v).heap[gm]? = some (.cells (msV m none 0 0) 25 (0, 0))) :
    RfSt D (w.setCell ⟨gm, j, none⟩ v) ok g gm (m, s.2) := by
  have hc : Chg (fun k => k = gm) w (w.setCell ⟨gm, j, none⟩ v) := Chg.set1 (Chg.refl _ w) j v
  exact ⟨h.rd.chg hc (fun e => h.gm.2.1 (by rw [← show g = gm from e])) (fun k hk e => h.gm.1 (by rw [← show k = gm from e]; exact hk)), hv h.row, by rw [show (m, s.2).1 = m from rfl, hm]; exact h.nous, h.gm, Nat.le_trans h.lt hc.size, h.oks⟩
end
/-- Between two rounds of the reference's loop. -/
structure RlSt (D : Nat) (w : World) (ok : Nat → Prop) (g gm : Nat) (m : Ms) (A : Option Addr) (j c : Nat) (bs : List UInt8) (e : Nat) : Prop where
  rd : IsRef w ok g bs e
  row : w.heap[gm]? = some (.cells (msV m A j c) 25 (0, 0))
  us : updK.R 62 w D (fun b => D ≤ b) (.slice A j c) m.2.2.2.2.2
  gm : ¬ ok gm ∧ gm ≠ g ∧ gm < D ∧ g < D
  lt : D ≤ w.heap.size
  oks : ∀ k, ok k → k < D
theorem RlSt.call {D : Nat} {w w' : World} {ok : Nat → Prop} {g gm : Nat} {m : Ms} {A : Option Addr} {j c : Nat} {bs bs' : List UInt8} {e e' : Nat} (h : RlSt D w ok g gm m A j c bs e) (hr : IsRef w' ok g bs' e') (hc : Chg (At (some ⟨g, 0, none⟩)) w w') : RlSt D w' ok g gm m A j c bs' e' :=
  ⟨hr, hc.heap h.row (fun k => h.gm.2.1 (at_eq k)), Kd.R_chg h.us hc (fun b hb k => by have := at_eq k; have := h.gm; omega), h.gm, Nat.le_trans h.lt hc.size, h.oks⟩
/-- The fields that were read behind each test. -/
def L0 (k : Int) : List Int := if k < 5 then [0] else []
def L1 (k : Int) : List Int := L0 k ++ [1]
def L2 (k : Int) : List Int := L1 k ++ (if k = 1 ∨ k = 3 then [2] else [])
def L3 (k : Int) : List Int := L2 k ++ (if k = 6 then [3] else [])
def L4 (k : Int) : List Int := L3 k ++ (if 5 ≤ k then [4] else [])
theorem L4_eq {k : Int} (h1 : 1 ≤ k) (h2 : k ≤ 6) : L4 k = fieldsL k := by
  have : k = 1 ∨ k = 2 ∨ k = 3 ∨ k = 4 ∨ k = 5 ∨ k = 6 := by omega
  rcases this with rfl | rfl | rfl | rfl | rfl | rfl <;> rfl
def stL (K : Int) (bs : List UInt8) (L : List Int) : Ms × List UInt8 × Nat := L.foldl takeF ((K, 0, 0, 0, false, []), bs, 0)
theorem stL_app (K : Int) (bs : List UInt8) (L : List Int) (f : Int) : stL K bs (L ++ [f]) = takeF (stL K bs L) f := by simp [stL]
theorem takeF_kind (s : Ms × List UInt8 × Nat) (f : Int) : (takeF s f).1.1 = s.1.1 := by
  unfold takeF
  split
  · rfl
  split
  · rfl
  split
  · rfl
  split
  · rfl
  · rfl
theorem stL_kind (K : Int) (bs : List UInt8) (L : List Int) : (stL K bs L).1.1 = K := by
  have : ∀ (L : List Int) (s : Ms × List UInt8 × Nat), (L.foldl takeF s).1.1 = s.1.1 := by
    intro L
    induction L with
    | nil => intro s; rfl
    | cons f L ih => intro s; rw [List.foldl_cons, ih, takeF_kind]
  exact this L _
/-- At a cut: the state, the kind apart. -/
structure CutSt (D : Nat) (w0 w : World) (ok : Nat → Prop) (g gm : Nat) (K : Int) (s : Ms × List UInt8 × Nat) : Prop where
  st : RfSt D w ok g gm s
  kind : s.1.1 = K
  chg : Chg (TkC g gm) w0 w
theorem CutSt.kcell {D : Nat} {w0 w : World} {ok : Nat → Prop} {g gm : Nat} {K : Int} {s : Ms × List UInt8 × Nat} (h : CutSt D w0 w ok g gm K s) : w.cell? ⟨gm, 0, none⟩ = some (.int .i64 K) := by
  have := (row6c h.st.row).1
  rw [h.kind] at this
  exact this
theorem CutSt.call {D : Nat} {w0 w w' : World} {ok : Nat → Prop} {g gm : Nat} {K : Int} {s : Ms × List UInt8 × Nat} {bs : List UInt8} {e : Nat} (h : CutSt D w0 w ok g gm K s) (hr : IsRef w' ok g bs e) (hc : Chg (At (some ⟨g, 0, none⟩)) w w') : CutSt D w0 w' ok g gm K (s.1, bs, e) :=
  ⟨h.st.call hr hc, h.kind, h.chg.trans hc (fun i hi => .inl (.inl (at_eq hi)))⟩
theorem CutSt.step {D : Nat} {w0 w : World} {ok : Nat → Prop} {g gm : Nat} {K : Int} {s : Ms × List UInt8 × Nat} (h : CutSt D w0 w ok g gm K s) (j : Nat) (v : Value) (m : Ms) (hm : m.2.2.2.2.2 = s.1.2.2.2.2.2) (hk : m.1 = s.1.1) (hv : w.heap[gm]? = some (.cells (msV s.1 none 0 0) 25 (0, 0)) → (w.setCell ⟨gm, j, none⟩ v).heap[gm]? = some (.cells (msV m none 0 0) 25 (0, 0))) :
    CutSt D w0 (w.setCell ⟨gm, j, none⟩ v) ok g gm K (m, s.2) :=
  ⟨h.st.set j v m hm hv, hk.trans h.kind, h.chg.setCell (p := ⟨gm, j, none⟩) (.inl (.inr rfl)) v⟩
theorem CutSt.fin {D : Nat} {w0 w : World} {ok : Nat → Prop} {g gm : Nat} {K : Int} {s : Ms × List UInt8 × Nat} (h : CutSt D w0 w ok g gm K s) : FnSt D w0 w ok g gm s :=
  ⟨h.st.rd, ⟨none, 0, 0, h.st.row, by rw [h.st.nous]; rfl, Nat.le_refl _, by rw [h.st.nous]; exact Kd.C_nil _ _ _ _⟩, h.chg⟩
def usM (m : Ms) (us : List Upd) : Ms := (m.1, m.2.1, m.2.2.1, m.2.2.2.1, m.2.2.2.2.1, us)
theorem alloc4 (w : World) (o1 o2 o3 o4 : Obj) : ((((w.alloc o1).alloc o2).alloc o3).alloc o4).heap[w.heap.size]? = some o1 ∧ ((((w.alloc o1).alloc o2).alloc o3).alloc o4).heap[w.heap.size + 1]? = some o2 ∧ ((((w.alloc o1).alloc o2).alloc o3).alloc o4).heap[w.heap.size + 1 + 1]? = some o3 ∧ ((((w.alloc o1).alloc o2).alloc o3).alloc o4).heap[w.heap.size + 1 + 1 + 1]? = some o4 ∧
    Chg nob w ((((w.alloc o1).alloc o2).alloc o3).alloc o4) ∧ ((((w.alloc o1).alloc o2).alloc o3).alloc o4).heap.size = w.heap.size + 4 := by
  obtain ⟨h1, h2, h3, h4, h5⟩ := alloc3 w o1 o2 o3
  have hc := (Chg.refl nob (((w.alloc o1).alloc o2).alloc o3)).alloc o4
  refine ⟨hc.heap h1 (not_nob _), hc.heap h2 (not_nob _), hc.heap h3 (not_nob _), ?_, h4.thenNew hc, by simp⟩
  have := heap_alloc_new (((w.alloc o1).alloc o2).alloc o3) o4
  rw [h5] at this
  exact this
set_option maxRecDepth 100000 in
set_option maxHeartbeats 4000000 in
theorem r_get {w : World} {ok : Nat → Prop} {A : Option Addr} {m c : Nat} {k : UInt8} {bs : List UInt8} (hb : Kd.byte.C w ok A bs) (hm : bs.length = m) (hmc : m ≤ c) :
    Calls Try.prog 15 #[.agg #[.int .u8 k.toNat, .slice A m c]] w (Gets w k.toNat bs) := by
  have hk := k.toNat_lt
  obtain ⟨K, hK⟩ : ∃ K, k.toNat = K := ⟨_, rfl⟩
  rw [hK] at hk ⊢
  clear hK
  have hwk : IntKind.i64.wrap (K : Int) = K := IntWalk.i64_in _ (by omega)
  go_enter Try.func15, Try.ntmps15
  by_cases hr : 1 ≤ K ∧ K ≤ 6
  · obtain ⟨x1, x2, x3, x4, x5, x6⟩ := alloc4 w (.cells #[.int .u8 K, .slice A m c] 28) (.cells #[.int .i64 0, .int .u32 0, .int .i64 0, .int .i64 0, .bool false, .slice none 0 0] 25) (.cells #[.int .i64 K, .int .u32 0, .int .i64 0, .int .i64 0, .bool false, .slice none 0 0] 25) (.cells #[.slice A m c, .int .i64 0] 74)
    have X2 := Lib.hid x2
    have X5 := Lib.hid x5
    have X6 := Lib.hid x6
    obtain ⟨okr, hokr, HB⟩ : ∃ okr : Nat → Prop, (∀ b, okr b → b < w.heap.size) ∧ Hid (Kd.byte.C w okr A bs) := ⟨_, fun b hb => hb.2, Kd.C_bound hb⟩
    have hst : RfSt (w.heap.size + 4) ((((w.alloc (.cells #[.int .u8 K, .slice A m c] 28)).alloc (.cells #[.int .i64 0, .int .u32 0, .int .i64 0, .int .i64 0, .bool false, .slice none 0 0] 25)).alloc (.cells #[.int .i64 K, .int .u32 0, .int .i64 0, .int .i64 0, .bool false, .slice none 0 0] 25)).alloc (.cells #[.slice A m c, .int .i64 0] 74)) okr (w.heap.size + 1 + 1 + 1) (w.heap.size + 1 + 1) ((K, 0, 0, 0, false, []), bs, 0) := by
      refine ⟨⟨fun h => by have := hokr _ h; omega, A, c, ?_, by rw [hm]; exact hmc, Kd.C_new HB.out x5⟩, x3, rfl, ⟨fun h => by have := hokr _ h; omega, by omega, by omega, by omega⟩, by rw [x6]; omega, fun b h => by have := hokr b h; omega⟩
      show _ = some (Obj.cells #[.slice A bs.length c, .int .i64 ((0 : Nat) : Int)] _ _)
      rw [hm]
      exact x4
    have k1 : ¬ (K : Int) < 1 := by omega
    have k6 : ¬ (6 : Int) < (K : Int) := by omega
    have HKR := Lib.hid hr
    have HST := Lib.hid hst
    clear hb hm HB hokr hr x1 x2 x3 x4 x5 x6 hst
    go_upto_region 5 with fail
    have hst := HST.out
    have x2 := X2.out
    have x5 := X5.out
    have x6 := X6.out
    clear HST X2 X5 X6
    obtain ⟨g, hg⟩ : ∃ g, w.heap.size + 1 + 1 + 1 = g := ⟨_, rfl⟩
    obtain ⟨gm, hgm⟩ : ∃ gm, w.heap.size + 1 + 1 = gm := ⟨_, rfl⟩
    rw [hg, hgm] at hst ⊢
    have HGM := Lib.hid hgm
    have HG := Lib.hid hg
    clear hg hgm
    have hx : ∃ w4, ((((w.alloc (.cells #[.int .u8 K, .slice A m c] 28)).alloc (.cells #[.int .i64 0, .int .u32 0, .int .i64 0, .int .i64 0, .bool false, .slice none 0 0] 25)).alloc (.cells #[.int .i64 K, .int .u32 0, .int .i64 0, .int .i64 0, .bool false, .slice none 0 0] 25)).alloc (.cells #[.slice A m c, .int .i64 0] 74)) = w4 := ⟨_, rfl⟩
    obtain ⟨w4, hw4⟩ := hx
    rw [hw4] at x2 x5 x6 hst
    have HR4 := Lib.hid x2
    have HC4 := Lib.hid x5
    have HSZ := Lib.hid x6
    have HCS : Hid (CutSt (w.heap.size + 4) w4 w4 okr g gm K (stL K bs [])) := ⟨hst, rfl, Chg.refl _ _⟩
    rw [hw4]
    clear hw4 x2 x5 x6 hst
    have kc := HCS.out.kcell
    go_upto_if 31 with fail
    -- WALK
    go_cut [] (fun wx => Hid (CutSt (w.heap.size + 4) w4 wx okr g gm K (stL K bs (L0 K))))
    case first =>
      by_cases h5 : (K : Int) < 5
      · have HL : Hid (L0 K = [] ++ [0]) := if_pos h5
        go_wp2_with fail
        refine (rr_num HCS.out.st.rd 4294967295 (by omega)).mono ?_
        rintro x w5 ⟨rfl, h5, hc5⟩
        have hle5 := rNum_le true (stL K bs []).2.1 (stL K bs []).2.2 4294967295
        obtain ⟨N5, b5, e5, hR5⟩ : ∃ N b e, rNum true (stL K bs []).2.1 (stL K bs []).2.2 4294967295 = (N, b, e) := ⟨_, _, _, rfl⟩
        rw [hR5] at h5 hle5 ⊢
        dsimp only at h5 hle5 ⊢
        have hwN5 : IntKind.u32.wrap (N5 : Int) = N5 := Int.emod_eq_of_lt (by omega) (by show (N5 : Int) < 4294967296; omega)
        have HC5 := Lib.hid (HCS.out.call h5 hc5)
        have HT5 : Hid (stL K bs ([] ++ [0]) = (((stL K bs []).1.1, (N5 : Int), (stL K bs []).1.2.2), b5, e5)) := by show _ = _; rw [stL_app]; simp [takeF, hR5]
        have kc5 := HC5.out.kcell
        have hrow5 := HC5.out.st.row
        have hfz5 := froz hrow5 1
        obtain ⟨_, z1, z2, z3, z4, z5⟩ := row6c hrow5
        have HN5 : Hid (CutSt (w.heap.size + 4) w4 (w5.setCell ⟨gm, 1, none⟩ (.int .u32 N5)) okr g gm K (stL K bs ([] ++ [0]))) := by
          show CutSt _ _ _ _ _ _ _ _
          rw [HT5.out]
          exact HC5.out.step 1 _ ((stL K bs []).1.1, (N5 : Int), (stL K bs []).1.2.2) rfl rfl (fun h => (set6 h _).1)
        clear h5 hc5 hR5 hrow5
        go_wp2
        go_meet
        case rel => rw [HL.out]; exact HN5
      · have HL : Hid (L0 K = []) := if_neg h5
        go_wp2
        go_meet
        case rel => rw [HL.out]; exact HCS
    case rest =>
      have HS1 := hcut
      clear hcut kc HCS
      have kc := HS1.out.kcell
      go_wp2_with fail
      refine (rr_num HS1.out.st.rd 255 (by omega)).mono ?_
      rintro x w6 ⟨rfl, h6, hc6⟩
      have hle6 := rNum_le true (stL K bs (L0 K)).2.1 (stL K bs (L0 K)).2.2 255
      obtain ⟨N6, b6, e6, hR6⟩ : ∃ N b e, rNum true (stL K bs (L0 K)).2.1 (stL K bs (L0 K)).2.2 255 = (N, b, e) := ⟨_, _, _, rfl⟩
      rw [hR6] at h6 hle6 ⊢
      dsimp only at h6 hle6 ⊢
      have hwN6 : IntKind.i64.wrap (N6 : Int) = N6 := IntWalk.i64_in _ (by omega)
      have HC6 := Lib.hid (HS1.out.call h6 hc6)
      have HT6 : Hid (stL K bs ((L0 K) ++ [1]) = (((stL K bs (L0 K)).1.1, (stL K bs (L0 K)).1.2.1, (N6 : Int), (stL K bs (L0 K)).1.2.2.2), b6, e6)) := by show _ = _; rw [stL_app]; simp [takeF, hR6]
      have kc6 := HC6.out.kcell
      have hrow6 := HC6.out.st.row
      have hfz6 := froz hrow6 2
      obtain ⟨_, z1, z2, z3, z4, z5⟩ := row6c hrow6
      have HN6 : Hid (CutSt (w.heap.size + 4) w4 (w6.setCell ⟨gm, 2, none⟩ (.int .i64 N6)) okr g gm K (stL K bs ((L0 K) ++ [1]))) := by
        show CutSt _ _ _ _ _ _ _ _
        rw [HT6.out]
        exact HC6.out.step 2 _ ((stL K bs (L0 K)).1.1, (stL K bs (L0 K)).1.2.1, (N6 : Int), (stL K bs (L0 K)).1.2.2.2) rfl rfl (fun h => (set6 h _).2.1)
      clear h6 hc6 hR6 hrow6
      have HL1 : Hid (L1 K = L0 K ++ [1]) := rfl
      rw [← HL1.out] at HN6
      clear HS1 HC6 HT6 kc
      go_upto_region 8 with fail
      go_cut [47] (fun s47 wx => s47 = .bool (decide ((K : Int) = 1 ∨ (K : Int) = 3)) ∧ Hid (CutSt (w.heap.size + 4) w4 wx okr g gm K (stL K bs (L1 K))))
      case first =>
        by_cases h1 : (K : Int) = 1
        · have HB : Hid (decide ((K : Int) = 1 ∨ (K : Int) = 3) = true) := decide_eq_true (.inl h1)
          have t1 : ((K : Int) == 1) = true := by simpa using h1
          clear h1
          go_wp2
          go_meet
          case rel => exact ⟨by rw [HB.out], HN6⟩
        · by_cases h3 : (K : Int) = 3
          · have HB : Hid (decide ((K : Int) = 1 ∨ (K : Int) = 3) = true) := decide_eq_true (.inr h3)
            have t1 : ((K : Int) == 1) = false := by simpa using h1
            have t3 : ((K : Int) == 3) = true := by simpa using h3
            clear h1 h3
            go_wp2
            go_meet
            case rel => exact ⟨by rw [HB.out], HN6⟩
          · have HB : Hid (decide ((K : Int) = 1 ∨ (K : Int) = 3) = false) := decide_eq_false (fun h => by rcases h with h | h; exact h1 h; exact h3 h)
            have t1 : ((K : Int) == 1) = false := by simpa using h1
            have t3 : ((K : Int) == 3) = false := by simpa using h3
            clear h1 h3
            go_wp2
            go_meet
            case rel => exact ⟨by rw [HB.out], HN6⟩
      case rest =>
        obtain ⟨hs47, HS2⟩ := hcut
        clear HN6 kc6 hfz6 z1 z2 z3 z4 z5
        obtain ⟨q, hq⟩ : ∃ q, decide ((K : Int) = 1 ∨ (K : Int) = 3) = q := ⟨_, rfl⟩
        rw [hq] at hs47
        have HQ := Lib.hid hq
        subst hs47
        clear hq
        go_upto_if 47 with fail
        go_cut [] (fun wx => Hid (CutSt (w.heap.size + 4) w4 wx okr g gm K (stL K bs (L2 K))))
        case first =>
          cases q
          · have HL : Hid (L2 K = L1 K) := by show _ = _; rw [L2, if_neg (of_decide_eq_false HQ.out), List.append_nil]
            go_wp2
            go_meet
            case rel => rw [HL.out]; exact HS2
          · have HL : Hid (L2 K = L1 K ++ [2]) := by show _ = _; rw [L2, if_pos (of_decide_eq_true HQ.out)]
            have kc := HS2.out.kcell
            go_wp2_with fail
            refine (rr_num HS2.out.st.rd 255 (by omega)).mono ?_
            rintro x w7 ⟨rfl, h7, hc7⟩
            have hle7 := rNum_le true (stL K bs (L1 K)).2.1 (stL K bs (L1 K)).2.2 255
            obtain ⟨N7, b7, e7, hR7⟩ : ∃ N b e, rNum true (stL K bs (L1 K)).2.1 (stL K bs (L1 K)).2.2 255 = (N, b, e) := ⟨_, _, _, rfl⟩
            rw [hR7] at h7 hle7 ⊢
            dsimp only at h7 hle7 ⊢
            have hwN7 : IntKind.i64.wrap (N7 : Int) = N7 := IntWalk.i64_in _ (by omega)
            have HC7 := Lib.hid (HS2.out.call h7 hc7)
            have HT7 : Hid (stL K bs ((L1 K) ++ [2]) = (((stL K bs (L1 K)).1.1, (stL K bs (L1 K)).1.2.1, (stL K bs (L1 K)).1.2.2.1, (N7 : Int), (stL K bs (L1 K)).1.2.2.2.2), b7, e7)) := by show _ = _; rw [stL_app]; simp [takeF, hR7]
            have kc7 := HC7.out.kcell
            have hrow7 := HC7.out.st.row
            have hfz7 := froz hrow7 3
            obtain ⟨_, z1, z2, z3, z4, z5⟩ := row6c hrow7
            have HN7 : Hid (CutSt (w.heap.size + 4) w4 (w7.setCell ⟨gm, 3, none⟩ (.int .i64 N7)) okr g gm K (stL K bs ((L1 K) ++ [2]))) := by
              show CutSt _ _ _ _ _ _ _ _
              rw [HT7.out]
              exact HC7.out.step 3 _ ((stL K bs (L1 K)).1.1, (stL K bs (L1 K)).1.2.1, (stL K bs (L1 K)).1.2.2.1, (N7 : Int), (stL K bs (L1 K)).1.2.2.2.2) rfl rfl (fun h => (set6 h _).2.2.1)
            clear h7 hc7 hR7 hrow7
            go_wp2
            go_meet
            case rel => rw [HL.out]; exact HN7
        case rest =>
          have HS3 := hcut
          clear hcut HS2 HQ
          have kc := HS3.out.kcell
          go_upto_if 54 with fail
          go_cut [] (fun wx => Hid (CutSt (w.heap.size + 4) w4 wx okr g gm K (stL K bs (L3 K))))
          case first =>
            by_cases h6 : (K : Int) = 6
            · have HL : Hid (L3 K = L2 K ++ [3]) := by show _ = _; rw [L3, if_pos h6]
              have t6 : ((K : Int) == 6) = true := by simpa using h6
              clear h6
              go_wp2_with fail
              refine (rr_flag HS3.out.st.rd).mono ?_
              rintro x w8 ⟨rfl, h8, hc8⟩
              obtain ⟨N8, b8, e8, hR8⟩ : ∃ N b e, rFlag true (stL K bs (L2 K)).2.1 (stL K bs (L2 K)).2.2 = (N, b, e) := ⟨_, _, _, rfl⟩
              rw [hR8] at h8  ⊢
              dsimp only at h8  ⊢
              have HC8 := Lib.hid (HS3.out.call h8 hc8)
              have HT8 : Hid (stL K bs ((L2 K) ++ [3]) = (((stL K bs (L2 K)).1.1, (stL K bs (L2 K)).1.2.1, (stL K bs (L2 K)).1.2.2.1, (stL K bs (L2 K)).1.2.2.2.1, N8, (stL K bs (L2 K)).1.2.2.2.2.2), b8, e8)) := by show _ = _; rw [stL_app]; simp [takeF, hR8]
              have kc8 := HC8.out.kcell
              have hrow8 := HC8.out.st.row
              have hfz8 := froz hrow8 4
              obtain ⟨_, z1, z2, z3, z4, z5⟩ := row6c hrow8
              have HN8 : Hid (CutSt (w.heap.size + 4) w4 (w8.setCell ⟨gm, 4, none⟩ (.bool N8)) okr g gm K (stL K bs ((L2 K) ++ [3]))) := by
                show CutSt _ _ _ _ _ _ _ _
                rw [HT8.out]
                exact HC8.out.step 4 _ ((stL K bs (L2 K)).1.1, (stL K bs (L2 K)).1.2.1, (stL K bs (L2 K)).1.2.2.1, (stL K bs (L2 K)).1.2.2.2.1, N8, (stL K bs (L2 K)).1.2.2.2.2.2) rfl rfl (fun h => (set6 h _).2.2.2.1)
              clear h8 hc8 hR8 hrow8
              go_wp2
              go_meet
              case rel => rw [HL.out]; exact HN8
            · have HL : Hid (L3 K = L2 K) := by show _ = _; rw [L3, if_neg h6, List.append_nil]
              have t6 : ((K : Int) == 6) = false := by simpa using h6
              clear h6
              go_wp2
              go_meet
              case rel => rw [HL.out]; exact HS3
          case rest =>
            have HS4 := hcut
            clear hcut HS3 kc
            have kc := HS4.out.kcell
            go_upto_if 60 with fail
            go_cut [] (fun wx => Hid (FnSt (w.heap.size + 4) w4 wx okr g gm (stL K bs (L4 K))))
            case first =>
              by_cases h5 : 5 ≤ (K : Int)
              · have HL : Hid (L4 K = L3 K ++ [4]) := by show _ = _; rw [L4, if_pos h5]
                go_wp2_with fail
                refine (rr_num HS4.out.st.rd 16 (by omega)).mono ?_
                rintro x w9 ⟨rfl, h9, hc9⟩
                have hle9 := rNum_le true (stL K bs (L3 K)).2.1 (stL K bs (L3 K)).2.2 16
                obtain ⟨N, b9, e9, hR9⟩ : ∃ N b e, rNum true (stL K bs (L3 K)).2.1 (stL K bs (L3 K)).2.2 16 = (N, b, e) := ⟨_, _, _, rfl⟩
                rw [hR9] at h9 hle9 ⊢
                dsimp only at h9 hle9 ⊢
                have hwN9 : IntKind.i64.wrap (N : Int) = N := IntWalk.i64_in _ (by omega)
                have HC9 := Lib.hid (HS4.out.call h9 hc9)
                obtain ⟨M, hM⟩ : ∃ M, (stL K bs (L3 K)).1 = M := ⟨_, rfl⟩
                rw [hM] at HC9
                have HT9 : Hid (stL K bs (L3 K ++ [4]) = (usM M (rItems rUpd N b9 e9).1, (rItems rUpd N b9 e9).2)) := by show _ = _; rw [stL_app, ← hM]; simp [takeF, rUps, hR9, usM]
                have HL0 : Hid (RlSt (w.heap.size + 4) w9 okr g gm (usM M []) none 0 0 b9 e9) := ⟨HC9.out.st.rd, by have h := HC9.out.st.row; have h2 : M.2.2.2.2.2 = [] := HC9.out.st.nous; exact h, Kd.R_nil _ _ _ _ _, HC9.out.st.gm, HC9.out.st.lt, HC9.out.st.oks⟩
                have HX9 := Lib.hid HC9.out.chg
                clear h9 hc9 hR9 hM HS4 kc HC9
                go_wp2
                go_loopw [7] (fun i wr => ∃ (j : Nat) (acc : List Upd) (Y : Option Addr) (y : Nat) (bs' : List UInt8) (e' : Nat), i = .int .i64 j ∧ j ≤ N ∧ Hid (acc.length = j ∧ rItems rUpd N b9 e9 = (acc ++ (rItems rUpd (N - j) bs' e').1, (rItems rUpd (N - j) bs' e').2)) ∧ Hid (RlSt (w.heap.size + 4) wr okr g gm (usM M acc) Y j y bs' e') ∧ Hid (Chg (TkC g gm) w4 wr)) (fun i _ => N - (intOf i).toNat)
                case atStart => exact ⟨0, [], none, 0, b9, e9, rfl, Nat.zero_le _, ⟨rfl, rfl⟩, HL0, HX9⟩
                case round =>
                  obtain ⟨j, acc, Y, y, bs', e', rfl, hj, HJ, HR, HX⟩ := hrel
                  clear HL0 HX9
                  have hstop : ¬ (j < N ∧ e' = 0) → Hid (FnSt (w.heap.size + 4) w4 wr okr g gm (stL K bs (L4 K))) := by
                    intro hno
                    show FnSt _ _ _ _ _ _ _
                    have h6 : rItems rUpd (N - j) bs' e' = ([], bs', e') := by
                      by_cases he : e' = 0
                      · rw [show N - j = 0 from by omega]; rfl
                      · exact rItems_stop he
                    have h7 : rItems rUpd N b9 e9 = (acc, bs', e') := by rw [HJ.out.2, h6]; simp
                    rw [HL.out, HT9.out, h7]
                    obtain ⟨k1, k2, k3⟩ := Kd.R_read HR.out.us
                    exact ⟨HR.out.rd, ⟨Y, j, y, HR.out.row, k2, k3, k1⟩, HX.out⟩
                  have HST := Lib.hid hstop
                  clear hstop
                  obtain ⟨_, _, _, E1, _, _, _, _⟩ := HR.out.rd.read
                  by_cases hlt : j < N
                  · have b1 : (j : Int) < (N : Int) := by omega
                    by_cases he : e' = 0
                    · subst he
                      rw [show (((0 : Nat) : Int)) = (0 : Int) from rfl] at E1
                      have HN : Hid ((acc ++ [(rUpd bs' 0).1]).length = j + 1 ∧ rItems rUpd N b9 e9 = ((acc ++ [(rUpd bs' 0).1]) ++ (rItems rUpd (N - (j + 1)) (rUpd bs' 0).2.1 (rUpd bs' 0).2.2).1, (rItems rUpd (N - (j + 1)) (rUpd bs' 0).2.1 (rUpd bs' 0).2.2).2)) := by
                        refine ⟨by simp [HJ.out.1], ?_⟩
                        rw [HJ.out.2, show N - j = (N - (j + 1)) + 1 from by omega, rItems, if_pos rfl]
                        simp
                      clear HST
                      go_wp2_with fail
                      refine (rr_num HR.out.rd 255 (by omega)).mono ?_
                      rintro x wa ⟨rfl, ha, hca⟩
                      have hlea := rNum_le true bs' 0 255
                      obtain ⟨Na, ba, ea, hRa⟩ : ∃ N b e, rNum true bs' 0 255 = (N, b, e) := ⟨_, _, _, rfl⟩
                      rw [hRa] at ha hlea ⊢
                      dsimp only at ha hlea ⊢
                      have hwa : IntKind.i64.wrap (Na : Int) = Na := IntWalk.i64_in _ (by omega)
                      have HRa := Lib.hid (HR.out.call ha hca)
                      have HXa := Lib.hid (HX.out.trans hca (fun i hi => .inl (.inl (at_eq hi))))
                      clear ha hca E1
                      go_wp2_with fail
                      refine (rr_num HRa.out.rd 4294967295 (by omega)).mono ?_
                      rintro x wb ⟨rfl, hb, hcb⟩
                      have hleb := rNum_le true ba ea 4294967295
                      obtain ⟨Nb, bb, eb, hRb⟩ : ∃ N b e, rNum true ba ea 4294967295 = (N, b, e) := ⟨_, _, _, rfl⟩
                      rw [hRb] at hb hleb ⊢
                      dsimp only at hb hleb ⊢
                      have hwb : IntKind.u32.wrap (Nb : Int) = Nb := Int.emod_eq_of_lt (by omega) (by show (Nb : Int) < 4294967296; omega)
                      have HRb := Lib.hid (HRa.out.call hb hcb)
                      have HXb := Lib.hid (HXa.out.trans hcb (fun i hi => .inl (.inl (at_eq hi))))
                      clear hb hcb
                      go_wp2_with fail
                      refine (rr_num HRb.out.rd 255 (by omega)).mono ?_
                      rintro x wd ⟨rfl, hd, hcd⟩
                      have hled := rNum_le true bb eb 255
                      obtain ⟨Nd, bd, ed, hRd⟩ : ∃ N b e, rNum true bb eb 255 = (N, b, e) := ⟨_, _, _, rfl⟩
                      rw [hRd] at hd hled ⊢
                      dsimp only at hd hled ⊢
                      have hwd : IntKind.i64.wrap (Nd : Int) = Nd := IntWalk.i64_in _ (by omega)
                      have HRd := Lib.hid (HRb.out.call hd hcd)
                      have HXd := Lib.hid (HXb.out.trans hcd (fun i hi => .inl (.inl (at_eq hi))))
                      have hU : rUpd bs' 0 = ((((Na : Int), (Nb : Int), (Nd : Int)) : Upd), bd, ed) := by simp only [rUpd, hRa, hRb, hRd]
                      rw [hU] at HN
                      dsimp only at HN
                      clear hd hcd hRa hRb hRd hU
                      have hrow := HRd.out.row
                      obtain ⟨_, _, _, _, _, q5⟩ := row6c hrow
                      have hRu := HRd.out.us
                      have hlt4 := HRd.out.lt
                      clear hrow
                      have hrow0 : Hid (wd.heap[gm]? = some (.cells (msV (usM M acc) Y j y) 25 (0, 0))) := HRd.out.row
                      go_wp2_with (at_builtin; refine wp_app1U rfl _ _ rfl (w.heap.size + 4) _ (.slice Y j y) acc ((Na : Int), (Nb : Int), (Nd : Int)) rfl rfl hRu hlt4 (j + 1) ?_ ?_ ?_)
                      · rw [HJ.out.1]
                      · omega
                      intro A5 c5 w5 hR5 hC5 _
                      have hgm5 : ¬ (some gm = (Value.slice Y j y).ownBlock) := fun e => by have := (Kd.R_own hRu gm e.symm).1; have := HRd.out.gm.2.2.1; omega
                      have hrow5 := hC5.heap hrow0.out hgm5
                      obtain ⟨z0, z1, z2, z3, z4, z5⟩ := row6c hrow5
                      have hfz5 := froz hrow5 5
                      have HROW5 := Lib.hid hrow5
                      have HCC := Lib.hid (Chg.set1 (Chg.refl (fun k => k = gm) w5) 5 (.slice A5 (j + 1) c5))
                      have HN5 : Hid (RlSt (w.heap.size + 4) (w5.setCell ⟨gm, 5, none⟩ (.slice A5 (j + 1) c5)) okr g gm (usM M (acc ++ [((Na : Int), (Nb : Int), (Nd : Int))])) A5 (j + 1) c5 bd ed) := by
                        have hgm := HRd.out.gm
                        refine ⟨(HRd.out.rd.chg hC5 (fun e => ?_) (fun k hk e => ?_)).chg HCC.out (fun e => hgm.2.1 (by rw [← show g = gm from e])) (fun k hk e => hgm.1 (by rw [← show k = gm from e]; exact hk)), (set6 HROW5.out _).2.2.2.2, ?_, hgm, Nat.le_trans (Nat.le_trans HRd.out.lt hC5.size) HCC.out.size, HRd.out.oks⟩
                        · have := (Kd.R_own hRu g e.symm).1; omega
                        · have := (Kd.R_own hRu k e.symm).1; have := HRd.out.oks k hk; omega
                        · exact Kd.R_chg (Kd.R_ge updK_flat hR5) HCC.out (fun b hb e => by have : b = gm := e; omega)
                      have HX5 : Hid (Chg (TkC g gm) w4 (w5.setCell ⟨gm, 5, none⟩ (.slice A5 (j + 1) c5))) := (HXd.out.trans hC5 (fun i hi => .inr (by have := (Kd.R_own hRu i hi.symm).1; have := HSZ.out; omega))).setCell (p := ⟨gm, 5, none⟩) (.inl (.inr rfl)) _
                      clear hR5 hC5 hrow5 hgm5 hRu q5 hlt4
                      go_wp2
                      go_roundw
                      case rel => exact ⟨j + 1, _, A5, c5, bd, ed, by go_num, by omega, HN, HN5, HX5⟩
                      case measure => simp [intOf]; omega
                    · have he' : ((e' : Int) == 0) = false := by simp; omega
                      have HE := HST.out (fun h => he h.2)
                      go_wp2
                      go_meet
                      case rel => exact HE
                  · have b1 : ¬ (j : Int) < (N : Int) := by omega
                    have HE := HST.out (fun h => hlt h.1)
                    go_wp2
                    go_meet
                    case rel => exact HE
              · have HL : Hid (L4 K = L3 K) := by show _ = _; rw [L4, if_neg h5, List.append_nil]
                go_wp2
                go_meet
                case rel => rw [HL.out]; exact HS4.out.fin
            case rest =>
              have HS5 := hcut
              clear hcut HS4 kc
              have HKF : Hid (stL K bs (L4 K) = getS K bs ∧ fieldsL K ≠ []) := by
                have h := HKR.out
                refine ⟨?_, ?_⟩
                · rw [stL, L4_eq (by omega) (by omega)]; rfl
                · rw [Ne, fieldsL_nil]; omega
              have hfs := HS5.out
              rw [HKF.out.1] at hfs
              have HRr := Lib.hid (hfs.chg.heap HR4.out (fun hk => by have := HGM.out; have := HG.out; rcases hk with h | h <;> omega))
              have HCr : Hid (Chg (fun k => w.heap.size ≤ k) w wc) := (HC4.out.ofNew (S := fun k => w.heap.size ≤ k)).trans hfs.chg (fun i hi => .inl (by have := HGM.out; have := HG.out; show _ ≤ _; rcases hi with h | h <;> omega))
              obtain ⟨⟨⟨kd, sq, fr, tg, rp, us⟩, bs', e'⟩, hS⟩ : ∃ S, getS K bs = S := ⟨_, rfl⟩
              rw [hS] at hfs
              have HT6 := Lib.hid hfs
              have HS := Lib.hid hS
              have HE : Hid (getE K bs = if rDone bs' e' ≠ 0 then rDone bs' e' else if rightM (kd, sq, fr, tg, rp, us) = true then 0 else 2) := by show _ = _; rw [getE, if_neg HKF.out.2, hS]
              clear hfs hS HS5
              go_wp2_with fail
              refine (rr_done HT6.out.rd).mono ?_
              rintro e w6 ⟨rfl, rfl⟩
              dsimp only
              obtain ⟨E, hE⟩ : ∃ E, rDone bs' e' = E := ⟨_, rfl⟩
              rw [hE] at HE ⊢
              clear hE
              by_cases he : E = 0
              · subst he
                rw [show (((0 : Nat) : Int)) = (0 : Int) from rfl]
                obtain ⟨B, n, d, hrow, hn, hnd, hu⟩ := HT6.out.row
                dsimp only at hn hu
                have HU := Lib.hid hu
                have HN := Lib.hid hn
                have HROW := Lib.hid hrow
                obtain ⟨q0, q1, q2, q3, q4, q5⟩ := row6c hrow
                dsimp only at q0 q1 q2 q3 q4 q5
                clear hrow hn hu
                go_wp2_with fail
                refine (r_rightM (m := (kd, sq, fr, tg, rp, us)) HU.out HN.out).mono ?_
                rintro e w7 ⟨rfl, hc7⟩
                obtain ⟨b, hR⟩ : ∃ b, rightM (kd, sq, fr, tg, rp, us) = b := ⟨_, rfl⟩
                rw [hR] at HE ⊢
                have HR7 := Lib.hid (hc7.heap HRr.out (not_nob _))
                have HRO7 := Lib.hid (hc7.heap HROW.out (not_nob _))
                have HU7 := Lib.hid (Kd.C_new HU.out hc7)
                have HC7 := Lib.hid (HCr.out.thenNew hc7)
                clear hc7 hR q0 q1 q2 q3 q4 q5
                have f0 := froz HR7.out 0
                have f1 := froz HR7.out 1
                have f2 := froz HR7.out 2
                have f3 := froz HR7.out 3
                have f4 := froz HR7.out 4
                have f5 := froz HR7.out 5
                obtain ⟨z0, z1, z2, z3, z4, z5⟩ := row6c HR7.out
                cases b
                · have HE2 : Hid (getE K bs = 2) := by show _ = _; rw [HE.out]; rfl
                  go_upto_if 104 with fail
                  refine wp_cond_true (by go_simp) ?_
                  go_wp
                  obtain ⟨hrow, hch⟩ := set6all HR7.out (.int .i64 0) (.int .u32 0) (.int .i64 0) (.int .i64 0) (.bool false) (.slice none 0 0)
                  generalize (World.setCell (World.setCell (World.setCell (World.setCell (World.setCell (World.setCell w7 _ _) _ _) _ _) _ _) _ _) _ _) = w9 at hrow hch ⊢
                  clear z0 z1 z2 z3 z4 z5
                  obtain ⟨z0, z1, z2, z3, z4, z5⟩ := row6c hrow
                  refine bodyPost_msg Try.results15 (eltS (eltS elt0)) (eltS (eltS (eltS elt0))) hrow ?_
                  exact gets_bad HE2.out (by decide) ((HC7.out.trans hch (fun i hi => .inl (by show _ ≤ _; omega))).mono (T := nob) (fun i hi => .inr hi))
                · have HE2 : Hid (getE K bs = 0) := by show _ = _; rw [HE.out]; rfl
                  obtain ⟨q0, q1, q2, q3, q4, q5⟩ := row6c HRO7.out
                  dsimp only at q0 q1 q2 q3 q4 q5
                  go_upto_if 104 with fail
                  refine wp_cond_false (by go_simp) ?_
                  go_wp
                  obtain ⟨hrow, hch⟩ := set6all HR7.out (.int .i64 kd) (.int .u32 sq) (.int .i64 fr) (.int .i64 tg) (.bool rp) (.slice B n d)
                  generalize (World.setCell (World.setCell (World.setCell (World.setCell (World.setCell (World.setCell w7 _ _) _ _) _ _) _ _) _ _) _ _) = w9 at hrow hch ⊢
                  clear z0 z1 z2 z3 z4 z5
                  obtain ⟨z0, z1, z2, z3, z4, z5⟩ := row6c hrow
                  refine bodyPost_msg Try.results15 (eltS (eltS elt0)) (eltS (eltS (eltS elt0))) hrow ?_
                  have hM : getM K bs = (kd, sq, fr, tg, rp, us) := by rw [getM, if_pos HE2.out, HS.out]
                  rw [Gets, hM, HE2.out]
                  refine ⟨B, n, d, rfl, HN.out, hnd, ?_, (HC7.out.trans hch (fun i hi => .inl (by show _ ≤ _; omega))).mono (T := nob) (fun i hi => .inr hi)⟩
                  exact Kd.C_mono (Kd.C_chg HU7.out hch (fun b hb e => by have : b = w.heap.size + 1 := e; omega)) (fun b hb => by show _ ≤ _; omega)
              · have hE0 : ((E : Int) == 0) = false := by simp; omega
                have HE2 : Hid (getE K bs = E) := by show _ = _; rw [HE.out, if_pos he]
                have HNE := Lib.hid he
                clear he HE
                have f0 := froz HRr.out 0
                have f1 := froz HRr.out 1
                have f2 := froz HRr.out 2
                have f3 := froz HRr.out 3
                have f4 := froz HRr.out 4
                have f5 := froz HRr.out 5
                obtain ⟨z0, z1, z2, z3, z4, z5⟩ := row6c HRr.out
                go_upto_if 104 with fail
                have hne := HNE.out
                refine wp_cond_true (by go_simp) ?_
                go_wp
                obtain ⟨hrow, hch⟩ := set6all HRr.out (.int .i64 0) (.int .u32 0) (.int .i64 0) (.int .i64 0) (.bool false) (.slice none 0 0)
                generalize (World.setCell (World.setCell (World.setCell (World.setCell (World.setCell (World.setCell w6 _ _) _ _) _ _) _ _) _ _) _ _) = w9 at hrow hch ⊢
                clear z0 z1 z2 z3 z4 z5
                obtain ⟨z0, z1, z2, z3, z4, z5⟩ := row6c hrow
                refine bodyPost_msg Try.results15 (eltS (eltS elt0)) (eltS (eltS (eltS elt0))) hrow ?_
                exact gets_bad HE2.out HNE.out ((HCr.out.trans hch (fun i hi => .inl (by show _ ≤ _; omega))).mono (T := nob) (fun i hi => .inr hi))
  · -- ELSE
    obtain ⟨x1, x2, x3, x4, x5⟩ := alloc3 w (.cells #[.int .u8 K, .slice A m c] 28) (.cells #[.int .i64 0, .int .u32 0, .int .i64 0, .int .i64 0, .bool false, .slice none 0 0] 25) (.cells #[.int .i64 K, .int .u32 0, .int .i64 0, .int .i64 0, .bool false, .slice none 0 0] 25)
    have X2 := Lib.hid x2
    have X4 := Lib.hid x4
    have HE : Hid (getE K bs = 31) := if_pos ((fieldsL_nil _).2 (by omega))
    clear x1 x2 x3 x4 x5 hb
    by_cases h1 : (K : Int) < 1
    all_goals
      try have h6 : (6 : Int) < (K : Int) := by omega
      clear hr
      go_upto_region 3 with fail
      go_wp
      refine bodyPost_msg Try.results15 (eltS (eltS elt0)) (eltS (eltS (eltS elt0))) X2.out ?_
      exact gets_bad HE.out (by decide) X4.out
end Go.Proofs.Ytmahjeafoogamaa
