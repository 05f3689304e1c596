/- The law FailoverBehind: its plain law; the walk. -/
import Derived.Test.YthjlgcooihpakaaFoWorks
import Derived.Test.YthjlgcooihpakaaSvcSame
import Derived.Test.YthjlgcooihpakaaAppendR
namespace Go.Proofs.Ythjlgcooihpakaa
open Go.RowKit
set_option linter.unusedVariables false
set_option linter.unusedSimpArgs false
theorem fst_spec {tag : ByteArray} {m : Nat} : ∀ (z : List (ByteArray × Ans)) (k0 : Nat), fstL m (spkL tag z k0) = ([], -1) ∨ ∃ j g, j < z.length ∧ g ≠ [] ∧ fstL m (spkL tag z k0) = (g.take m, ((k0 + j : Nat) : Int)) ∧ ∀ z', (∀ i, i ≤ j → z'[i]? = z[i]?) → fstL m (spkL tag z' k0) = fstL m (spkL tag z k0)
  | [], k0 => .inl rfl
  | (t, a) :: r, k0 => by
    have ih := fst_spec (tag := tag) (m := m) r (k0 + 1)
    by_cases h1 : a.1 = 1 ∧ goodL tag t a.2.2.2.2.1 ≠ []
    · right
      have e : ∀ r', fstL m (spkL tag ((t, a) :: r') k0) = ((goodL tag t a.2.2.2.2.1).take m, (k0 : Int)) := by
        intro r'
        rw [spkL, if_pos h1.1, fstL, if_neg h1.2]
      refine ⟨0, _, by simp, h1.2, e r, fun z' hz => ?_⟩
      have h0 := hz 0 (Nat.le_refl _)
      cases z' with
      | nil => simp at h0
      | cons p z'' =>
        simp at h0
        subst h0
        rw [e, e]
    · have e : ∀ r', fstL m (spkL tag ((t, a) :: r') k0) = fstL m (spkL tag r' (k0 + 1)) := by
        intro r'
        rw [spkL]
        by_cases h2 : a.1 = 1
        · rw [if_pos h2, fstL, if_pos (Classical.byContradiction fun h3 => h1 ⟨h2, h3⟩)]
        · rw [if_neg h2]
      rcases ih with ih | ⟨j, g, hj, hg, hf, hz⟩
      · left
        rw [e, ih]
      · right
        refine ⟨j + 1, g, by simpa using hj, hg, by rw [e, hf, show k0 + 1 + j = k0 + (j + 1) from by omega], fun z' hz' => ?_⟩
        have h0 := hz' 0 (Nat.zero_le _)
        cases z' with
        | nil => simp at h0
        | cons p z'' =>
          simp at h0
          subst h0
          rw [e, e]
          exact hz z'' (fun i hi => by simpa using hz' (i + 1) (by omega))
theorem zip_agree {ts : List ByteArray} {ls ls' : List Ans} {i : Nat} (h : ls'[i]? = ls[i]?) : (ts.zip ls')[i]? = (ts.zip ls)[i]? := by
  rw [List.zip_eq_zipWith, List.zip_eq_zipWith, List.getElem?_zipWith, List.getElem?_zipWith, h]
/-- What Resolve tells is none, or stands on the answers up to it. -/
theorem resW_spec (ts : List ByteArray) (tag : ByteArray) (most : Int) (ls : List Ans) : resW ts tag most ls = ([], -1) ∨ ∃ (m k : Nat) (g : List Svc), most = m ∧ 1 ≤ m ∧ m ≤ 16 ∧ k < ls.length ∧ k < 4 ∧ resW ts tag most ls = (g, (k : Int)) ∧ 0 < g.length ∧ g.length ≤ m ∧ ∀ e, resW ts tag most (ls.take (k + 1) ++ e) = (g, (k : Int)) := by
  by_cases hu : upR ts tag most = true
  · have hd := of_decide_eq_true hu
    have er : ∀ l, resW ts tag most l = resF ts tag most.toNat l := fun l => if_pos hu
    rcases fst_spec (tag := tag) (m := most.toNat) (ts.zip ls) 0 with h | ⟨j, g, hj, hg, hf, hz⟩
    · left
      rw [er]
      exact h
    · right
      rw [List.length_zip] at hj
      have h4 := hd.2.1
      rw [Nat.zero_add] at hf
      refine ⟨most.toNat, j, g.take most.toNat, by omega, by omega, by omega, by omega, by omega, by rw [er]; exact hf, ?_, by rw [List.length_take]; omega, fun e => ?_⟩
      · rw [List.length_take]
        have := List.length_pos_iff.2 hg
        omega
      · rw [er]
        unfold resF
        rw [hz _ (fun i hi => zip_agree ?_)]
        · exact hf
        · rw [List.getElem?_append_left (by rw [List.length_take]; omega), List.getElem?_take, if_pos (by omega)]
  · left
    exact if_neg hu
theorem boxed2 {α : Type} {d : Kd α} {w : World} {ok : Nat → Prop} {x y : α} {cs ds : Array Value} (e : TypeId) (h : d.K w ok x cs.toList) (k : d.K w ok y ds.toList) : d.C (w.alloc (.cells (cs ++ ds) e)) (fun k => ok k ∨ k = w.heap.size) (some ⟨w.heap.size, 0, none⟩) [x, y] := by
  have hl := d.len h
  have kl := d.len k
  have up : ∀ {z : α} {c : List Value}, d.K w ok z c → d.K (w.alloc (.cells (cs ++ ds) e)) (fun k => ok k ∨ k = w.heap.size) z c := fun hz => d.mono (fun k hk => .inl hk) (Kd.step hz (fun k _ hl => Below.heap_alloc w _ k hl))
  refine ⟨by simp, (cs ++ ds).toList, ?_, fun _ => ⟨_, rfl, .inr rfl, World.news_of_block (heap_alloc_new w _)⟩⟩
  rw [Array.toList_append]
  exact Reps.append (xs := [x]) (ys := [y]) (Reps.single (up h) hl) (Reps.single (up k) kl)
theorem ans_info : (Try.prog.info? 36).map (fun i => (i.zero, i.size, i.bytes)) = some (some (.agg #[.int .i64 0, .int .u64 0, .bool false, .int .i64 0, .string ByteArray.empty, .slice none 0 0, .slice none 0 0, .slice none 0 0, .slice none 0 0, .slice none 0 0, .slice none 0 0]), ansK.sz, 192) := by kernel_rfl
/-- The boxes of the upstream and of the answer beside. -/
structure BhS (w1 : World) (ub xb : Nat) (us xs : Array Value) (wx : World) : Prop where
  u : wx.heap[ub]? = some (.cells us 24 (0, 0))
  x : wx.heap[xb]? = some (.cells xs 36 (0, 0))
  chg : Chg nob w1 wx
theorem BhS.new {w1 wx wy : World} {ub xb : Nat} {us xs : Array Value} (h : BhS w1 ub xb us xs wx) (hc : Chg nob wx wy) : BhS w1 ub xb us xs wy := ⟨hc.heap h.u (not_nob _), hc.heap h.x (not_nob _), h.chg.thenNew hc⟩
theorem BhS.turn {T : Nat → Prop} {w1 wx wy : World} {ub xb : Nat} {us xs : Array Value} (h : BhS w1 ub xb us xs wx) (hc : Chg T wx wy) (hT : ∀ b, T b → w1.heap.size ≤ b) (hw : ub < w1.heap.size ∧ xb < w1.heap.size) : BhS w1 ub xb us xs wy :=
  ⟨hc.heap h.u (fun e => by have := hT _ e; omega), hc.heap h.x (fun e => by have := hT _ e; omega), h.chg.trans hc (fun b hb => .inr (hT b hb))⟩
theorem BhS.x2 {w1 wx : World} {ub xb : Nat} {us xs ys : Array Value} (h : BhS w1 ub xb us xs wx) (e : xs = ys) : wx.heap[xb]? = some (.cells ys 36 (0, 0)) := e ▸ h.x
theorem row3 {w : World} {g t : Nat} {a b c : Value} (h : w.heap[g]? = some (.cells #[a, b, c] t (0, 0))) : w.cell? ⟨g, 0, none⟩ = some a ∧ w.cell? ⟨g, 1, none⟩ = some b ∧ w.cell? ⟨g, 2, none⟩ = some c :=
  ⟨by rw [cell_of_row _ _ _ _ _ _ h]; rfl, by rw [cell_of_row _ _ _ _ _ _ h]; rfl, by rw [cell_of_row _ _ _ _ _ _ h]; rfl⟩
theorem row11 {w : World} {g t : Nat} {a0 a1 a2 a3 a4 a5 a6 a7 a8 a9 a10 : Value} (h : w.heap[g]? = some (.cells #[a0, a1, a2, a3, a4, a5, a6, a7, a8, a9, a10] t (0, 0))) : w.cell? ⟨g, 0, none⟩ = some a0 ∧ w.cell? ⟨g, 1, none⟩ = some a1 ∧ w.cell? ⟨g, 2, none⟩ = some a2 ∧ w.cell? ⟨g, 3, none⟩ = some a3 ∧ w.cell? ⟨g, 4, none⟩ = some a4 ∧ w.cell? ⟨g, 5, none⟩ = some a5 ∧ w.cell? ⟨g, 6, none⟩ = some a6 ∧ w.cell? ⟨g, 7, none⟩ = some a7 ∧ w.cell? ⟨g, 8, none⟩ = some a8 ∧ w.cell? ⟨g, 9, none⟩ = some a9 ∧ w.cell? ⟨g, 10, none⟩ = some a10 :=
  ⟨by rw [cell_of_row _ _ _ _ _ _ h]; rfl, by rw [cell_of_row _ _ _ _ _ _ h]; rfl, by rw [cell_of_row _ _ _ _ _ _ h]; rfl, by rw [cell_of_row _ _ _ _ _ _ h]; rfl, by rw [cell_of_row _ _ _ _ _ _ h]; rfl, by rw [cell_of_row _ _ _ _ _ _ h]; rfl, by rw [cell_of_row _ _ _ _ _ _ h]; rfl, by rw [cell_of_row _ _ _ _ _ _ h]; rfl, by rw [cell_of_row _ _ _ _ _ _ h]; rfl, by rw [cell_of_row _ _ _ _ _ _ h]; rfl, by rw [cell_of_row _ _ _ _ _ _ h]; rfl⟩
set_option maxRecDepth 100000 in
set_option maxHeartbeats 4000000 in
theorem foBehind_walk {w : World} {okT okL : Nat → Prop} {T B : Option Addr} {tn tc ln lc : Nat} {ts : List ByteArray} {tag : ByteArray} {ls : List Ans} {most : Int} {x : Ans} {cs : Array Value} (hT : strK.C w okT T ts) (hL : ansK.C w okL B ls) (hX : ansK.K w okL x cs.toList) (hn : ts.length = tn) (hln : ls.length = ln) (htc : tn ≤ tc) (hsz : ∀ s ∈ ts, s.size ≤ 9223372036854775807) (htg : tag.size ≤ 9223372036854775807) (hokT : ∀ b, okT b → b < w.heap.size) (hokL : ∀ b, okL b → b < w.heap.size) :
    Calls Try.prog 3 #[.agg #[.slice T tn tc, .string tag, .int .i64 most], .slice B ln lc, .agg cs] w fun e w' => e = .returned (.bool true) ∧ Chg nob w w' := by
  obtain ⟨S, sd, K, kd, Nn, nd, I, id, E, ed, Tt, td, hcs, _⟩ := (ans_cells hX).ex
  obtain ⟨xcs, hxcs⟩ : ∃ xcs : Array Value, xcs = #[.int .i64 x.1, .int .u64 x.2.1, .bool x.2.2.1.1, .int .i64 x.2.2.1.2.1, .string x.2.2.1.2.2.1, .slice S x.2.2.1.2.2.2.1.length sd, .slice K x.2.2.1.2.2.2.2.length kd, .slice Nn x.2.2.2.1.length nd, .slice I x.2.2.2.2.1.length id, .slice E x.2.2.2.2.2.1.length ed, .slice Tt x.2.2.2.2.2.2.length td] := ⟨_, rfl⟩
  obtain rfl : cs = xcs := by rw [hxcs]; cases cs; simpa using hcs
  clear hcs
  have hbx := two_box2 w #[.slice T tn tc, .string tag, .int .i64 most] 24 cs 36
  obtain ⟨w1, hw1⟩ : ∃ w1, w1 = (w.alloc (.cells #[.slice T tn tc, .string tag, .int .i64 most] 24)).alloc (.cells cs 36) := ⟨_, rfl⟩
  rw [← hw1] at hbx
  obtain ⟨hbu, hbv, hc1⟩ := hbx
  have hs1 : w1.heap.size = w.heap.size + 2 := by rw [hw1]; simp
  have HSZ1 := Lib.hid hs1
  have HC1 := Lib.hid hc1
  have HW1 := Lib.hid hw1
  have HS1 : Hid (BhS w1 w.heap.size (w.heap.size + 1) #[.slice T tn tc, .string tag, .int .i64 most] cs w1) := ⟨hbu, hbv, Chg.refl _ _⟩
  have HT := Lib.hid hT
  have HL := Lib.hid hL
  have HX := Lib.hid hX
  have HN := Lib.hid hn
  have HLN := Lib.hid hln
  have HSZ := Lib.hid hsz
  have HOT := Lib.hid hokT
  have HOL := Lib.hid hokL
  have HXCS := Lib.hid hxcs
  have hsl := hL.small
  rw [hln] at hsl
  obtain ⟨q0, q1, q2⟩ := row3 HS1.out.u
  clear hs1 hbu hbv hc1 hw1 hT hL hX hn hln hsz hokT hokL hxcs
  go_enter Try.func3, Try.ntmps3
  go_upto_region 1 with fail
  rw [← HW1.out]
  go_wp2_with fail
  refine (f_resolve (Kd.C_new HT.out HC1.out) (Kd.C_new HL.out HC1.out) HN.out HLN.out htc HSZ.out htg (fun b hb => Nat.lt_of_lt_of_le (HOT.out b hb) HC1.out.size) (fun b hb => Nat.lt_of_lt_of_le (HOL.out b hb) HC1.out.size)).mono ?_
  rintro e w2 ⟨A2, c2, rfl, hcl2, hC2, hc2⟩
  have HM2 := Lib.hid hC2
  have HC2 := Lib.hid hc2
  rcases resW_spec ts tag most ls with hR | ⟨m, k, g, rfl, hm1, hm16, hkl, hk4, hR, hg0, hgm, hre⟩
  · rw [hR]
    clear hR hcl2 hC2 hc2 HM2 q0 q1 q2
    go_wp2_with fail
    refine (fo_works _).mono ?_
    rintro e w3 ⟨rfl, hc3⟩
    have HC3 := Lib.hid ((HC1.out.thenNew HC2.out).thenNew hc3)
    clear hc3
    go_wp2
    go_ret
    exact ⟨rfl, HC3.out⟩
  · rw [hR] at hcl2 HM2 ⊢
    have HRE := Lib.hid hre
    obtain ⟨gn, hgn⟩ : ∃ gn, g.length = gn := ⟨_, rfl⟩
    dsimp only at hcl2 HM2 ⊢
    rw [hgn] at hcl2 hg0 hgm ⊢
    have HGN := Lib.hid hgn
    rw [HLN.out] at hkl
    have hkn : ¬ (k : Int) < 0 := by omega
    have HR0 : Hid (ansK.R 36 w2 w2.heap.size (fun b => okL b ∨ w2.heap.size ≤ b) (.slice none 0 0) (ls.take 0)) := Kd.R_nil _ _ _ _ _
    have HC20 := Lib.hid (Chg.refl nob w2)
    have hw12 := HC2.out.size
    have hw01 := HC1.out.size
    clear hR hC2 hc2 hre hgn q0 q1 q2
    go_wp2
    go_loopw [9, 10] (fun v i wr => ∃ (j : Nat) (V : Option Addr) (cv : Nat), j ≤ k + 1 ∧ v = .slice V j cv ∧ i = .int .i64 j ∧ Hid (ansK.R 36 wr w2.heap.size (fun b => okL b ∨ w2.heap.size ≤ b) (.slice V j cv) (ls.take j)) ∧ Hid (Chg nob w2 wr)) (fun _ i _ => k + 1 - (intOf i).toNat)
    case atStart => exact ⟨0, none, 0, Nat.zero_le _, rfl, rfl, HR0, HC20⟩
    case round =>
      obtain ⟨j, V, cv, hj, rfl, rfl, HR, HC⟩ := hrel
      clear HR0 HC20
      have HLT : Hid ((ls.take j).length = j) := by show _ = _; rw [List.length_take, HLN.out]; omega
      by_cases hlt : j < k + 1
      · have b1 : (j : Int) < (ln : Int) := by omega
        have b2 : (j : Int) ≤ (k : Int) := by omega
        have b3 : (0 : Int) ≤ (j : Int) := by omega
        obtain ⟨a, ha⟩ : ∃ a, ls[j]? = some a := ⟨_, List.getElem?_eq_getElem (by rw [HLN.out]; omega)⟩
        obtain ⟨bb, bo, c, rfl, _, hkk, hcc⟩ := Kd.C_at' (Kd.C_new HL.out ((HC1.out.thenNew HC2.out).thenNew HC.out)) ha
        obtain ⟨S', sd', K', kd', Nn', nd', I', id', E', ed', Tt', td', rfl, _⟩ := (ans_cells hkk).ex
        have z0 := hcc 0 _ rfl
        have z1 := hcc 1 _ rfl
        have z2 := hcc 2 _ rfl
        have z3 := hcc 3 _ rfl
        have z4 := hcc 4 _ rfl
        have z5 := hcc 5 _ rfl
        have z6 := hcc 6 _ rfl
        have z7 := hcc 7 _ rfl
        have z8 := hcc 8 _ rfl
        have z9 := hcc 9 _ rfl
        have z10 := hcc 10 _ rfl
        rw [show ansK.sz = 11 from rfl] at z0 z1 z2 z3 z4 z5 z6 z7 z8 z9 z10
        rw [Nat.add_zero] at z0
        have HKK := Lib.hid hkk
        have HTK : Hid (ls.take j ++ [a] = ls.take (j + 1)) := by show _ = _; rw [List.take_add_one, ha]; rfl
        clear ha hkk hcc
        go_wp2_with (at_builtin; refine wp_append1 (d := ansK) rfl _ _ 25 rfl 36 (.agg #[.int .i64 0, .int .u64 0, .bool false, .int .i64 0, .string ByteArray.empty, .slice none 0 0, .slice none 0 0, .slice none 0 0, .slice none 0 0, .slice none 0 0, .slice none 0 0]) 192 Try.underlying25 ans_info rfl w2.heap.size _ okL (.slice V j cv) (ls.take j) a _ rfl rfl HR.out HKK.out ?_ ?_ ?_ HC.out.size (j + 1) (by rw [HLT.out]) ?_)
        · intro b hb e
          have h1 := (Kd.R_own HR.out b e.symm).1
          have h2 := HOL.out b hb
          omega
        · rw [HLT.out]; simp only [maxLen]; omega
        · rw [HLT.out]; omega
        intro A5 c5 w5 hR5 hC5 _
        have HC5 : Hid (Chg nob w2 w5) := HC.out.trans hC5 (fun i hi => .inr (Kd.R_own HR.out i hi.symm).1)
        have HR5 : Hid (ansK.R 36 w5 w2.heap.size (fun b => okL b ∨ w2.heap.size ≤ b) (.slice A5 (j + 1) c5) (ls.take (j + 1))) := by
          show Kd.R _ _ _ _ _ _ _
          rw [← HTK.out]
          refine Kd.R_mono hR5 (fun b hb => ?_)
          have h3 := HC.out.size
          rcases hb with hb | hb | hb
          · exact hb
          · exact .inl hb
          · exact .inr (by omega)
        clear hR5 hC5 z0 z1 z2 z3 z4 z5 z6 z7 z8 z9 z10
        go_wp2
        exact ⟨⟨j + 1, A5, c5, by omega, rfl, by go_num, HR5, HC5⟩, by simp [intOf]; omega⟩
      · obtain rfl : j = k + 1 := by omega
        have HSX : Hid (BhS w2 w.heap.size (w.heap.size + 1) #[.slice T tn tc, .string tag, .int .i64 m] cs wr) := ⟨HC.out.heap (HC2.out.heap HS1.out.u (not_nob _)) (not_nob _), HC.out.heap (HC2.out.heap HS1.out.x (not_nob _)) (not_nob _), HC.out⟩
        have hend : (((k + 1 : Nat) : Int) < (ln : Int)) ∨ ¬ (((k + 1 : Nat) : Int) < (ln : Int)) := by omega
        have b2 : ¬ ((k + 1 : Nat) : Int) ≤ (k : Int) := by omega
        have HRA := Lib.hid (Kd.R_new HR.out (((Chg.refl nob wr).drew).alloc (.cells (cs ++ cs) 36)))
        have HXK : Hid (ansK.K wr.drew okL x cs.toList) := Kd.step HX.out (fun b hb hl => (((HC1.out.thenNew HC2.out).thenNew HC.out).drew).block b hl (not_nob _))
        have HBX := Lib.hid (boxed2 36 HXK.out HXK.out)
        have hwr := HC.out.size
        rcases hend with hend | hend
        all_goals
          go_wp2
          refine wp_region_held_drew (S := fun wx => BhS w2 w.heap.size (w.heap.size + 1) #[.slice T tn tc, .string tag, .int .i64 m] cs wx) (by kernel_rfl) (HSX.out.new ((Chg.refl _ _).drew)) (fun hHeld => ?_)
          refine wpAnyH_take (i := 0) (v := ?_) pick0 (by kernel_rfl) (by kernel_rfl) (by kernel_rfl) (fun _ _ _ h => h) (Or.inl ⟨by rfl, ?_⟩) (by assumption) ?_
          rotate_left 1
          · (intro wx hSw; obtain ⟨q0, q1, q2⟩ := row3 hSw.u; go_simp; try with_reducible rfl)
          try simp only [Act.put, List.setIfInBounds_toArray, List.set_cons_zero, List.set_cons_succ]
          refine wpAnyH_take (i := 1) (v := ?_) (pickS pick0) (by kernel_rfl) (by kernel_rfl) (by kernel_rfl) (fun _ _ _ h => h) (Or.inl ⟨by rfl, ?_⟩) (by assumption) ?_
          rotate_left 1
          · (intro wx hSw; go_simp; try with_reducible rfl)
          try simp only [Act.put, List.setIfInBounds_toArray, List.set_cons_zero, List.set_cons_succ]
          refine wpAnyH_take (i := 2) (v := ?_) (pickS (pickS pick0)) (by kernel_rfl) (by kernel_rfl) (by kernel_rfl) (fun _ _ _ h => h) (Or.inl ⟨by rfl, ?_⟩) (by assumption) ?_
          rotate_left 1
          · (intro wx hSw; obtain ⟨p0, p1, p2, p3, p4, p5, p6, p7, p8, p9, p10⟩ := row11 (hSw.x2 HXCS.out); go_simp; try with_reducible rfl)
          try simp only [Act.put, List.setIfInBounds_toArray, List.set_cons_zero, List.set_cons_succ]
          refine wpAnyH_take (i := 3) (v := ?_) (pickS (pickS (pickS pick0))) (by kernel_rfl) (by kernel_rfl) (by kernel_rfl) (fun _ _ _ h => h) (Or.inl ⟨by rfl, ?_⟩) (by assumption) ?_
          rotate_left 1
          · (intro wx hSw; obtain ⟨p0, p1, p2, p3, p4, p5, p6, p7, p8, p9, p10⟩ := row11 (hSw.x2 HXCS.out); go_simp; try with_reducible rfl)
          try simp only [Act.put, List.setIfInBounds_toArray, List.set_cons_zero, List.set_cons_succ]
          refine wpAnyH_ready (rs := [4]) (by kernel_rfl) (by simp) ?_
          refine AllReadyH.cons (pickS (pickS (pickS (pickS pick0)))) (fun K hK => ?_) AllReadyH.nil
          go_simp
          refine hK.out _ _ (hHeld.new ((Chg.refl nob _).alloc _)) (fun hHeld => ?_)
          clear hK K
          try simp only [Act.put, List.setIfInBounds_toArray, List.set_cons_zero, List.set_cons_succ]
          refine wpAnyH_ready (rs := [5]) (by kernel_rfl) (by simp) ?_
          refine AllReadyH.cons (pickS (pickS (pickS (pickS (pickS pick0))))) (fun K hK => ?_) AllReadyH.nil
          refine step_append (d := ansK) rfl _ _ 25 rfl 36 (.agg #[.int .i64 0, .int .u64 0, .bool false, .int .i64 0, .string ByteArray.empty, .slice none 0 0, .slice none 0 0, .slice none 0 0, .slice none 0 0, .slice none 0 0, .slice none 0 0]) 192 Try.underlying25 ans_info rfl w2.heap.size _ _ (.slice V (k + 1) cv) (ls.take (k + 1)) [x, x] (some ⟨wr.heap.size, 0, none⟩) 2 2 rfl rfl rfl (by have h := HRA.out; rw [HXCS.out] at h; exact h) (by have h := HBX.out; rw [HXCS.out] at h; exact h) ?_ ?_ ?_ ?_ (k + 3) ?_ ?_
          · intro b hb e
            have h1 := (Kd.R_own HR.out b e.symm)
            rcases hb with hb | hb
            · have h2 := HOL.out b hb; omega
            · have hb : b = wr.drew.heap.size := hb; have : wr.drew.heap.size = wr.heap.size := rfl; omega
          · rw [HLT.out]; simp only [maxLen, List.length_cons, List.length_nil]; omega
          · rw [HLT.out]; simp only [List.length_cons, List.length_nil]; omega
          · simp; omega
          · rw [HLT.out]
          intro A8 c8 w8 hR8 hC8 _
          have HN8 : Hid (BhS w2 w.heap.size (w.heap.size + 1) #[.slice T tn tc, .string tag, .int .i64 m] cs w8) := hHeld.turn hC8 (fun b hb => by have := (Kd.R_own HR.out b hb.symm).1; omega) (by have := HSZ1.out; omega)
          have HR8 := Lib.hid (Kd.C_bound (Kd.R_read hR8).1)
          have HL8 := Lib.hid (Kd.R_read hR8).2.1
          clear hR8 hC8
          refine hK.out _ _ (HN8.out) (fun hHeld => ?_)
          clear hK K
          try simp only [Act.put, List.setIfInBounds_toArray, List.set_cons_zero, List.set_cons_succ]
          refine wpAnyH_ready (rs := [6]) (by kernel_rfl) (by simp) ?_
          refine AllReadyH.cons (pickS (pickS (pickS (pickS (pickS (pickS pick0)))))) (fun K hK => ?_) AllReadyH.nil
          go_simp
          refine (f_resolve (okT := okT) (okL := fun b => b < w8.heap.size) (Kd.C_new HT.out ((HC1.out.thenNew HC2.out).thenNew HN8.out.chg)) (Kd.C_mono HR8.out (fun b hb => hb.2)) HN.out HL8.out htc HSZ.out htg (fun b hb => Nat.lt_of_lt_of_le (HOT.out b hb) ((HC1.out.thenNew HC2.out).thenNew HN8.out.chg).size) (fun b hb => hb)).mono ?_
          rw [HRE.out]
          rintro e w9 ⟨A9, c9, rfl, hcl9, hC9, hc9⟩
          dsimp only at hcl9 hC9 ⊢
          rw [HGN.out] at hcl9 ⊢
          have HN9 := Lib.hid (HN8.out.new hc9)
          have HM9 := Lib.hid hC9
          clear hC9 hc9
          go_wp2_with fail
          refine hK.out _ _ (HN9.out) (fun hHeld => ?_)
          clear hK K
          try simp only [Act.put, List.setIfInBounds_toArray, List.set_cons_zero, List.set_cons_succ]
          refine wpAnyH_take (i := 7) (v := ?_) (pickS (pickS (pickS (pickS (pickS (pickS (pickS pick0))))))) (by kernel_rfl) (by kernel_rfl) (by kernel_rfl) (fun _ _ _ h => h) (Or.inl ⟨by rfl, ?_⟩) (by assumption) ?_
          rotate_left 1
          · (intro wx hSw; go_simp; try with_reducible rfl)
          try simp only [Act.put, List.setIfInBounds_toArray, List.set_cons_zero, List.set_cons_succ]
          refine wpAnyH_take (i := 8) (v := ?_) (pickS (pickS (pickS (pickS (pickS (pickS (pickS (pickS pick0)))))))) (by kernel_rfl) (by kernel_rfl) (by kernel_rfl) (fun _ _ _ h => h) (Or.inl ⟨by rfl, ?_⟩) (by assumption) ?_
          rotate_left 1
          · (intro wx hSw; go_simp; try with_reducible rfl)
          try simp only [Act.put, List.setIfInBounds_toArray, List.set_cons_zero, List.set_cons_succ]
          refine wpAnyH_take (i := 9) (v := ?_) (pickS (pickS (pickS (pickS (pickS (pickS (pickS (pickS (pickS pick0))))))))) (by kernel_rfl) (by kernel_rfl) (by kernel_rfl) (fun _ _ _ h => h) (Or.inl ⟨by rfl, ?_⟩) (by assumption) ?_
          rotate_left 1
          · (intro wx hSw; go_simp; try with_reducible rfl)
          try simp only [Act.put, List.setIfInBounds_toArray, List.set_cons_zero, List.set_cons_succ]
          refine wpAnyH_take (i := 10) (v := ?_) (pickS (pickS (pickS (pickS (pickS (pickS (pickS (pickS (pickS (pickS pick0)))))))))) (by kernel_rfl) (by kernel_rfl) (by kernel_rfl) (fun _ _ _ h => h) (Or.inl ⟨by rfl, ?_⟩) (by assumption) ?_
          rotate_left 1
          · (intro wx hSw; go_simp; try with_reducible rfl)
          try simp only [Act.put, List.setIfInBounds_toArray, List.set_cons_zero, List.set_cons_succ]
          refine wpAnyH_take (i := 11) (v := ?_) (pickS (pickS (pickS (pickS (pickS (pickS (pickS (pickS (pickS (pickS (pickS pick0))))))))))) (by kernel_rfl) (by kernel_rfl) (by kernel_rfl) (fun _ _ _ h => h) (Or.inl ⟨by rfl, ?_⟩) (by assumption) ?_
          rotate_left 1
          · (intro wx hSw; go_simp; try with_reducible rfl)
          try simp only [Act.put, List.setIfInBounds_toArray, List.set_cons_zero, List.set_cons_succ]
          refine wpAnyH_done (by kernel_rfl) ?_ _
          go_wp2_with fail
          refine (r_sameV HGN.out (Kd.C_new HM2.out HN9.out.chg) HM9.out).mono ?_
          rintro e w10 ⟨rfl, hc10⟩
          have HN10 := Lib.hid (HN9.out.new hc10)
          obtain ⟨q0, q1, q2⟩ := row3 HN10.out.u
          have t1 : ((k : Int) == (k : Int)) = true := by simp
          have t2 : (0 : Int) < (gn : Int) := by omega
          have t3 : (gn : Int) ≤ (m : Int) := by omega
          clear hc10
          go_wp2_with fail
          refine (fo_works _).mono ?_
          rintro e w11 ⟨rfl, hc11⟩
          have HC11 := Lib.hid (((HC1.out.thenNew HC2.out).thenNew HN10.out.chg).thenNew hc11)
          clear hc11 q0 q1 q2
          go_wp2
          go_ret
          exact ⟨rfl, HC11.out⟩
end Go.Proofs.Ythjlgcooihpakaa
