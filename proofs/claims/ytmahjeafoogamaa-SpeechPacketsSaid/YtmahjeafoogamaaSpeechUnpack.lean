/- Messages: packets: Unpack, the reference's Unpack, All. -/
import Derived.Test.YtmahjeafoogamaaSpeechPack
import Derived.Test.YtmahjeafoogamaaSpeechRefGet
import Derived.Test.YtmahjeafoogamaaSpeechSame
namespace Go.Proofs.Ytmahjeafoogamaa
open Go.RowKit
set_option linter.unusedVariables false
set_option linter.unusedSimpArgs false
def frMs (f : Fr) : Ms := getM f.1.toNat f.2
def frE (f : Fr) : Nat := getE f.1.toNat f.2
/-- The first error; 0: none. -/
def firstG : List Fr → Nat
  | [] => 0
  | f :: l => if frE f = 0 then firstG l else frE f
theorem firstG_app : ∀ {l r : List Fr}, firstG l = 0 → firstG (l ++ r) = firstG r
  | [], r, _ => rfl
  | f :: l, r, h => by
    unfold firstG at h
    split at h
    · rename_i hf
      rw [List.cons_append, firstG, if_pos hf]
      exact firstG_app h
    · rename_i hf; exact absurd h hf
theorem firstG_all : ∀ {l : List Fr}, firstG l = 0 → ∀ f ∈ l, frE f = 0
  | [], _, f, hf => by cases hf
  | g :: l, h, f, hf => by
    unfold firstG at h
    split at h
    · rename_i hg
      rcases List.mem_cons.1 hf with rfl | hf
      · exact hg
      · exact firstG_all h f hf
    · rename_i hg; exact absurd h hg
/-- Why a packet's messages are none; 0: they are some. -/
def unpSE (bs : List UInt8) : Nat := if unpE bs ≠ 0 then unpE bs else firstG (allR bs).1
def unpSL (bs : List UInt8) : List Ms := if unpSE bs = 0 then (allR bs).1.map frMs else []
def SUnps (w : World) (bs : List UInt8) (e : Ending) (w' : World) : Prop :=
  ∃ L n c, e = .returned (.tuple #[.slice L n c, .int .i64 (unpSE bs)]) ∧ (unpSL bs).length = n ∧ n ≤ c ∧ msK.C w' (fun b => w.heap.size ≤ b) L (unpSL bs) ∧ Chg nob w w'
theorem sunps_bad {w w' : World} {bs : List UInt8} {E : Nat} (h : unpSE bs = E) (hE : E ≠ 0) (hc : Chg nob w w') : SUnps w bs (.returned (.tuple #[.slice none 0 0, .int .i64 E])) w' := by
  have hm : unpSL bs = [] := if_neg (by omega)
  rw [SUnps, hm, h]
  exact ⟨none, 0, 0, rfl, rfl, Nat.le_refl _, Kd.C_nil _ _ _ _, hc⟩
theorem body_small : ∀ {l : List Fr} {f : Fr}, f ∈ l → f.2.length ≤ (packB l).length
  | g :: l, f, h => by
    have e : packB (g :: l) = frameB g ++ packB l := by simp [packB]
    rw [e, List.length_append]
    rcases List.mem_cons.1 h with rfl | h
    · have := frameB_len f
      omega
    · have := body_small h
      omega
theorem unp_small {bs : List UInt8} (h : unpE bs = 0) {f : Fr} (hf : f ∈ (allR bs).1) : f.2.length ≤ 1400 := by
  obtain ⟨_, h2, h3, _⟩ := unpE_zero h
  have h4 := body_small hf
  rw [packB_of_all h3] at h4
  omega
theorem ms_info : (Try.prog.info? 25).map (fun i => (i.zero, i.size, i.bytes)) = some (some (.agg #[.int .i64 0, .int .u32 0, .int .i64 0, .int .i64 0, .bool false, .slice none 0 0]), 6, 64) := by kernel_rfl
theorem msK_mk {w : World} {ok : Nat → Prop} {m : Ms} {B : Option Addr} {n d : Nat} (hu : updK.C w ok B m.2.2.2.2.2) (hn : m.2.2.2.2.2.length = n) (hd : n ≤ d) : msK.K w ok m (msV m B n d).toList := by
  subst hn
  exact ⟨[_], _, rfl, rfl, [_], _, rfl, rfl, [_], _, rfl, rfl, [_], _, rfl, rfl, [_], _, rfl, rfl, B, d, rfl, hd, hu⟩
section
variable {ops : Array Oper} {Q : Exit → Act → World → Prop} {rest : List Oper} {a : Act} {w : World} {o : Oper}
theorem wp_app1M (hgd : o.guard = none) (s x : Operand) (ho : o.op = .call { callee := .builtin .append, args := #[s, x], argTypes := #[43, 43] })
    (base : Nat) (ok ok2 : Nat → Prop) (v : Value) (xs : List Ms) (y : Ms) (cs : Array Value) (hs : a.eval s = v) (g : Nat) (hg : w.heap.size = g) (hx : a.eval x = .slice (some ⟨g, 0, none⟩) 1 1)
    (hr : msK.R 25 w base ok v xs) (hy : msK.K w ok2 y cs.toList) (hne : ∀ k, ok2 k → some k ≠ v.ownBlock) (hbase : base ≤ w.heap.size) (len : Nat) (hlen : xs.length + 1 = len) (hl : len ≤ 1000000000)
    (h : ∀ A' c' w', msK.R 25 w' base (fun k => (ok k ∨ ok2 k ∨ w.heap.size ≤ k) ∧ k < w'.heap.size) (.slice A' len c') (xs ++ [y]) → Chg (fun k => some k = v.ownBlock) w w' → ((Value.slice A' len c').ownBlock = v.ownBlock ∨ ∃ k, (Value.slice A' len c').ownBlock = some k ∧ w.heap.size ≤ k) → wpList Try.prog ops Q rest (a.put o.dst (.slice A' len c')) w') :
    wpList Try.prog ops Q (o :: rest) a (w.alloc (.cells cs 25)) :=
  wp_append1 (d := msK) hgd s x 43 ho 25 (.agg #[.int .i64 0, .int .u32 0, .int .i64 0, .int .i64 0, .bool false, .slice none 0 0]) 64 Try.underlying43 ms_info rfl base ok ok2 v xs y cs hs (by rw [hg]; exact hx) hr hy hne (by unfold maxLen; omega) (by omega) hbase len hlen (fun A' c' w' hR hC hO => h A' c' w' (Kd.R_bound hR) hC hO)
end
set_option maxRecDepth 100000 in
set_option maxHeartbeats 2000000 in
theorem s_unpack {w : World} {A : Option Addr} {m c : Nat} {bs : List UInt8} (hb : Kd.byte.C w (fun b => b < w.heap.size) A bs) (hm : bs.length = m) (hmc : m ≤ c) :
    Calls Try.prog 20 #[.slice A m c] w (SUnps w bs) := by
  have HB := Lib.hid hb
  have HM := Lib.hid hm
  clear hb hm
  go_enter Try.func20, Try.ntmps20
  go_wp2_with fail
  refine (f_unpack HB.out HM.out hmc).mono ?_
  rintro e w2 ⟨hc2, ⟨he, rfl⟩ | ⟨he, L, n, cl, rfl, hn, hcl, hC⟩⟩
  · have HSE : Hid (unpSE bs = unpE bs) := if_pos he
    have HC2 := Lib.hid hc2
    have HNE := Lib.hid he
    obtain ⟨E, hE⟩ : ∃ E, unpE bs = E := ⟨_, rfl⟩
    rw [hE] at HSE HNE ⊢
    have hE0 : ((E : Int) == 0) = false := by have := HNE.out; simp; omega
    clear hc2 he hE
    go_wp2
    go_ret2
    exact sunps_bad HSE.out HNE.out HC2.out
  · have HSE : Hid (unpSE bs = firstG (allR bs).1) := if_neg (by omega)
    have HSM : Hid (∀ f ∈ (allR bs).1, f.2.length ≤ 1400) := fun f hf => unp_small he hf
    have HN32 : Hid ((allR bs).1.length ≤ 32) := (unpE_zero he).2.2.2
    obtain ⟨xs, hxs⟩ : ∃ xs, (allR bs).1 = xs := ⟨_, rfl⟩
    have HXS := Lib.hid hxs
    rw [hxs] at hC hn HSE HSM HN32
    have hn32 : n ≤ 32 := by rw [← hn]; exact HN32.out
    have HN := Lib.hid hn
    have HX := Lib.hid hC
    have HF0 : Hid (firstG (xs.take 0) = 0) := rfl
    have HR0 : Hid (msK.R 25 w2 w2.heap.size (fun b => w.heap.size ≤ b) (.slice none 0 0) ((xs.take 0).map frMs)) := Kd.R_nil _ _ _ _ _
    have HS0 := Lib.hid hc2
    have HD0 := Lib.hid (Chg.refl nob w2)
    have HWW := Lib.hid hc2.size
    clear hc2 he hn hC hxs HB
    go_wp2
    go_loopw [6, 21] (fun vb i wr => ∃ (j : Nat) (Y : Option Addr) (y : Nat), j ≤ n ∧ vb = .slice Y j y ∧ i = .int .i64 j ∧ Hid (firstG (xs.take j) = 0) ∧ Hid (msK.R 25 wr w2.heap.size (fun b => w.heap.size ≤ b) (.slice Y j y) ((xs.take j).map frMs)) ∧ Hid (Chg nob w wr) ∧ Hid (Chg nob w2 wr)) (fun _ i _ => n - (intOf i).toNat)
    case atStart => exact ⟨0, none, 0, Nat.zero_le _, rfl, rfl, HF0, HR0, HS0, HD0⟩
    case round =>
      obtain ⟨j, Y, y, hj1, rfl, rfl, HF, HR, HS, HD⟩ := hrel
      clear HF0 HR0 HS0 HD0
      by_cases hlt : j < n
      · have b1 : (j : Int) < (n : Int) := by omega
        have b3 : (0 : Int) ≤ (j : Int) := by omega
        obtain ⟨f, hf⟩ : ∃ f, xs[j]? = some f := ⟨_, List.getElem?_eq_getElem (by rw [HN.out]; exact hlt)⟩
        obtain ⟨lb, lo, FB, fd, rfl, _, c0, c1, hfd, hfb⟩ := fr_at (Kd.C_new HX.out HD.out) hf
        have HTK := Lib.hid (take_split hf)
        have HSF := Lib.hid (HSM.out f (List.mem_of_getElem? hf))
        obtain ⟨fl, hfl⟩ : ∃ q, f.2.length = q := ⟨_, rfl⟩
        rw [hfl] at hfd c1 HSF
        have HFL := Lib.hid hfl
        have hcA := (Chg.refl nob wr).alloc (.cells #[.int .u8 f.1.toNat, .slice FB fl fd] 28)
        have HPRE := Lib.hid hcA
        have HFB := Lib.hid (Kd.C_new hfb hcA)
        obtain ⟨r0, r1⟩ := row2s (heap_alloc_new wr (.cells #[.int .u8 f.1.toNat, .slice FB fl fd] 28))
        clear hcA
        clear hf hfb hfl
        go_wp2_with fail
        refine (s_get HFB.out HFL.out (by have := HSF.out; omega)).mono ?_
        rintro e w3 ⟨B, nu, d, rfl, hnu, hnd, hu, hc3⟩
        obtain ⟨E, hE⟩ : ∃ E, getE (f.1.toNat : Int) f.2 = E := ⟨_, rfl⟩
        obtain ⟨M, hM⟩ : ∃ M, getM (f.1.toNat : Int) f.2 = M := ⟨_, rfl⟩
        rw [hE, hM]
        rw [hM] at hnu hu
        have HE : Hid (frE f = E) := hE
        have HMM : Hid (frMs f = M) := hM
        have hc3' := HPRE.out.thenNew hc3
        have hca4 := (Chg.refl nob w3).alloc (.cells (msV M B nu d) 25)
        have HC4 := Lib.hid ((HS.out.thenNew hc3').thenNew hca4)
        have HD4 := Lib.hid ((HD.out.thenNew hc3').thenNew hca4)
        by_cases he : E = 0
        · subst he
          rw [show (((0 : Nat) : Int)) = (0 : Int) from rfl]
          have HF2 : Hid (firstG (xs.take (j + 1)) = 0) := by show _ = _; rw [HTK.out.1, firstG_app HF.out, firstG, if_pos HE.out]; rfl
          have HTM : Hid ((xs.take (j + 1)).map frMs = (xs.take j).map frMs ++ [M]) := by show _ = _; rw [HTK.out.1, List.map_append, ← HMM.out]; rfl
          have HK4 : Hid (msK.K (w3.alloc (.cells (msV M B nu d) 25)) (fun b => wr.heap.size ≤ b) M (msV M B nu d).toList) := msK_mk (Kd.C_mono (Kd.C_new hu hca4) (fun b hb => Nat.le_trans HPRE.out.size hb)) hnu hnd
          have HR4 := Lib.hid (Kd.R_new HR.out (hc3'.thenNew hca4))
          have HNE : Hid (∀ k, wr.heap.size ≤ k → some k ≠ (Value.slice Y j y).ownBlock) := fun k hk e => by
            have := (Kd.R_own HR.out k e.symm).2
            omega
          have HB4 : Hid (w2.heap.size ≤ (w3.alloc (.cells (msV M B nu d) 25)).heap.size) := HD4.out.size
          have HLN : Hid (((xs.take j).map frMs).length + 1 = j + 1) := by show _ = _; rw [List.length_map, List.length_take, HN.out]; omega
          have HWS := Lib.hid HS.out.size
          have HWS4 := Lib.hid hc3'.size
          obtain ⟨q0, q1, q2, q3, q4, q5⟩ := row6c (heap_alloc_new w3 (.cells (msV M B nu d) 25))
          have hsz4 : (w3.alloc (.cells (msV M B nu d) 25)).heap.size = w3.heap.size + 1 := by simp
          have HSZ4 := Lib.hid hsz4
          clear hc3 hc3' hca4 hnu hu hE hM hsz4 c0 c1
          obtain ⟨kd, sq, fr, tg, rp, us⟩ := M
          go_wp2_with (at_builtin; refine wp_app1M rfl _ _ rfl w2.heap.size _ _ (.slice Y j y) ((xs.take j).map frMs) (kd, sq, fr, tg, rp, us) _ rfl (w3.heap.size + 1) HSZ4.out rfl HR4.out HK4.out HNE.out HB4.out (j + 1) HLN.out (by omega) ?_)
          intro A5 c5 w5 hR5 hC5 _
          have HR5 : Hid (msK.R 25 w5 w2.heap.size (fun b => w.heap.size ≤ b) (.slice A5 (j + 1) c5) ((xs.take (j + 1)).map frMs)) := by
            show Kd.R _ _ _ _ _ _ _
            rw [HTM.out, List.map_take]
            refine Kd.R_mono hR5 ?_
            have g1 := HWS.out
            have g2 := HWS4.out
            rintro k ⟨h | h | h, _⟩
            · exact h
            · show _ ≤ _; omega
            · have h2 := HSZ4.out; show _ ≤ _; omega
          have HS5 : Hid (Chg nob w w5) := ((HC4.out.ofNew (S := fun k => some k = (Value.slice Y j y).ownBlock)).trans hC5 (fun i hi => .inl hi)).mono (fun i hi => .inr (by have := (Kd.R_own HR4.out i hi.symm).1; have := HWW.out; omega))
          have HD5 : Hid (Chg nob w2 w5) := ((HD4.out.ofNew (S := fun k => some k = (Value.slice Y j y).ownBlock)).trans hC5 (fun i hi => .inl hi)).mono (fun i hi => .inr (Kd.R_own HR4.out i hi.symm).1)
          clear hR5 hC5 q0 q1 q2 q3 q4 q5
          go_wp2
          exact ⟨⟨j + 1, A5, c5, by omega, rfl, by go_num, HF2, HR5, HS5, HD5⟩, by simp [intOf]; omega⟩
        · have hE0 : ((E : Int) == 0) = false := by simp; omega
          have HSB : Hid (unpSE bs = E) := by show _ = _; rw [HSE.out, HTK.out.2, firstG_app HF.out, firstG, if_neg (by rw [HE.out]; exact he), HE.out]
          have HNE := Lib.hid he
          clear hc3 hc3' hca4 hnu hu hE hM he c0 c1
          go_wp2
          go_ret2
          exact sunps_bad HSB.out HNE.out HC4.out
      · obtain rfl : j = n := by omega
        have b1 : ¬ (j : Int) < (j : Int) := by omega
        have ht : xs.take j = xs := by rw [← HN.out, List.take_length]
        have hf := HF.out
        rw [ht] at hf
        have hU : unpSE bs = 0 := HSE.out.trans hf
        have hL : unpSL bs = xs.map frMs := by rw [unpSL, if_pos hU, HXS.out]
        obtain ⟨k1, k2, k3⟩ := Kd.R_read HR.out
        rw [ht] at k1 k2
        have HFIN : Hid (SUnps w bs (.returned (.tuple #[.slice Y j y, .int .i64 0])) wr) := by
          show SUnps _ _ _ _
          rw [SUnps, hU, hL]
          exact ⟨Y, j, y, rfl, k2, k3, k1, HS.out⟩
        clear ht hf hU hL k1 k2 k3 HF HR
        go_wp2
        go_ret2
        exact HFIN.out
set_option maxRecDepth 100000 in
set_option maxHeartbeats 2000000 in
theorem r_unpack13 {w : World} {A : Option Addr} {m c : Nat} {bs : List UInt8} (hb : Kd.byte.C w (fun b => b < w.heap.size) A bs) (hm : bs.length = m) (hmc : m ≤ c) :
    Calls Try.prog 21 #[.slice A m c] w (SUnps w bs) := by
  have HB := Lib.hid hb
  have HM := Lib.hid hm
  clear hb hm
  go_enter Try.func21, Try.ntmps21
  go_wp2_with fail
  refine (fr_unpack HB.out HM.out hmc).mono ?_
  rintro e w2 ⟨hc2, ⟨he, rfl⟩ | ⟨he, L, n, cl, rfl, hn, hcl, hC⟩⟩
  · have HSE : Hid (unpSE bs = unpE bs) := if_pos he
    have HC2 := Lib.hid hc2
    have HNE := Lib.hid he
    obtain ⟨E, hE⟩ : ∃ E, unpE bs = E := ⟨_, rfl⟩
    rw [hE] at HSE HNE ⊢
    have hE0 : ((E : Int) == 0) = false := by have := HNE.out; simp; omega
    clear hc2 he hE
    go_wp2
    go_ret2
    exact sunps_bad HSE.out HNE.out HC2.out
  · have HSE : Hid (unpSE bs = firstG (allR bs).1) := if_neg (by omega)
    have HSM : Hid (∀ f ∈ (allR bs).1, f.2.length ≤ 1400) := fun f hf => unp_small he hf
    have HN32 : Hid ((allR bs).1.length ≤ 32) := (unpE_zero he).2.2.2
    obtain ⟨xs, hxs⟩ : ∃ xs, (allR bs).1 = xs := ⟨_, rfl⟩
    have HXS := Lib.hid hxs
    rw [hxs] at hC hn HSE HSM HN32
    have hn32 : n ≤ 32 := by rw [← hn]; exact HN32.out
    have HN := Lib.hid hn
    have HX := Lib.hid hC
    have HF0 : Hid (firstG (xs.take 0) = 0) := rfl
    have HR0 : Hid (msK.R 25 w2 w2.heap.size (fun b => w.heap.size ≤ b) (.slice none 0 0) ((xs.take 0).map frMs)) := Kd.R_nil _ _ _ _ _
    have HS0 := Lib.hid hc2
    have HD0 := Lib.hid (Chg.refl nob w2)
    have HWW := Lib.hid hc2.size
    clear hc2 he hn hC hxs HB
    go_wp2
    go_loopw [6, 7] (fun vb i wr => ∃ (j : Nat) (Y : Option Addr) (y : Nat), j ≤ n ∧ vb = .slice Y j y ∧ i = .int .i64 j ∧ Hid (firstG (xs.take j) = 0) ∧ Hid (msK.R 25 wr w2.heap.size (fun b => w.heap.size ≤ b) (.slice Y j y) ((xs.take j).map frMs)) ∧ Hid (Chg nob w wr) ∧ Hid (Chg nob w2 wr)) (fun _ i _ => n - (intOf i).toNat)
    case atStart => exact ⟨0, none, 0, Nat.zero_le _, rfl, rfl, HF0, HR0, HS0, HD0⟩
    case round =>
      obtain ⟨j, Y, y, hj1, rfl, rfl, HF, HR, HS, HD⟩ := hrel
      clear HF0 HR0 HS0 HD0
      by_cases hlt : j < n
      · have b1 : (j : Int) < (n : Int) := by omega
        have b3 : (0 : Int) ≤ (j : Int) := by omega
        obtain ⟨f, hf⟩ : ∃ f, xs[j]? = some f := ⟨_, List.getElem?_eq_getElem (by rw [HN.out]; exact hlt)⟩
        obtain ⟨lb, lo, FB, fd, rfl, _, c0, c1, hfd, hfb⟩ := fr_at (Kd.C_new HX.out HD.out) hf
        have HTK := Lib.hid (take_split hf)
        have HSF := Lib.hid (HSM.out f (List.mem_of_getElem? hf))
        obtain ⟨fl, hfl⟩ : ∃ q, f.2.length = q := ⟨_, rfl⟩
        rw [hfl] at hfd c1 HSF
        have HFL := Lib.hid hfl
        have HPRE := Lib.hid (Chg.refl nob wr)
        have HFB := Lib.hid hfb
        clear hf hfb hfl
        go_wp2_with fail
        refine (r_get HFB.out HFL.out hfd).mono ?_
        rintro e w3 ⟨B, nu, d, rfl, hnu, hnd, hu, hc3⟩
        obtain ⟨E, hE⟩ : ∃ E, getE (f.1.toNat : Int) f.2 = E := ⟨_, rfl⟩
        obtain ⟨M, hM⟩ : ∃ M, getM (f.1.toNat : Int) f.2 = M := ⟨_, rfl⟩
        rw [hE, hM]
        rw [hM] at hnu hu
        have HE : Hid (frE f = E) := hE
        have HMM : Hid (frMs f = M) := hM
        have hc3' := HPRE.out.thenNew hc3
        have hca4 := (Chg.refl nob w3).alloc (.cells (msV M B nu d) 25)
        have HC4 := Lib.hid ((HS.out.thenNew hc3').thenNew hca4)
        have HD4 := Lib.hid ((HD.out.thenNew hc3').thenNew hca4)
        by_cases he : E = 0
        · subst he
          rw [show (((0 : Nat) : Int)) = (0 : Int) from rfl]
          have HF2 : Hid (firstG (xs.take (j + 1)) = 0) := by show _ = _; rw [HTK.out.1, firstG_app HF.out, firstG, if_pos HE.out]; rfl
          have HTM : Hid ((xs.take (j + 1)).map frMs = (xs.take j).map frMs ++ [M]) := by show _ = _; rw [HTK.out.1, List.map_append, ← HMM.out]; rfl
          have HK4 : Hid (msK.K (w3.alloc (.cells (msV M B nu d) 25)) (fun b => wr.heap.size ≤ b) M (msV M B nu d).toList) := msK_mk (Kd.C_mono (Kd.C_new hu hca4) (fun b hb => Nat.le_trans HPRE.out.size hb)) hnu hnd
          have HR4 := Lib.hid (Kd.R_new HR.out (hc3'.thenNew hca4))
          have HNE : Hid (∀ k, wr.heap.size ≤ k → some k ≠ (Value.slice Y j y).ownBlock) := fun k hk e => by
            have := (Kd.R_own HR.out k e.symm).2
            omega
          have HB4 : Hid (w2.heap.size ≤ (w3.alloc (.cells (msV M B nu d) 25)).heap.size) := HD4.out.size
          have HLN : Hid (((xs.take j).map frMs).length + 1 = j + 1) := by show _ = _; rw [List.length_map, List.length_take, HN.out]; omega
          have HWS := Lib.hid HS.out.size
          have HWS4 := Lib.hid hc3'.size
          obtain ⟨q0, q1, q2, q3, q4, q5⟩ := row6c (heap_alloc_new w3 (.cells (msV M B nu d) 25))
          have hsz4 : (w3.alloc (.cells (msV M B nu d) 25)).heap.size = w3.heap.size + 1 := by simp
          have HSZ4 := Lib.hid hsz4
          clear hc3 hc3' hca4 hnu hu hE hM hsz4 c0 c1
          obtain ⟨kd, sq, fr, tg, rp, us⟩ := M
          go_wp2_with (at_builtin; refine wp_app1M rfl _ _ rfl w2.heap.size _ _ (.slice Y j y) ((xs.take j).map frMs) (kd, sq, fr, tg, rp, us) _ rfl (w3.heap.size + 1) HSZ4.out rfl HR4.out HK4.out HNE.out HB4.out (j + 1) HLN.out (by omega) ?_)
          intro A5 c5 w5 hR5 hC5 _
          have HR5 : Hid (msK.R 25 w5 w2.heap.size (fun b => w.heap.size ≤ b) (.slice A5 (j + 1) c5) ((xs.take (j + 1)).map frMs)) := by
            show Kd.R _ _ _ _ _ _ _
            rw [HTM.out, List.map_take]
            refine Kd.R_mono hR5 ?_
            have g1 := HWS.out
            have g2 := HWS4.out
            rintro k ⟨h | h | h, _⟩
            · exact h
            · show _ ≤ _; omega
            · have h2 := HSZ4.out; show _ ≤ _; omega
          have HS5 : Hid (Chg nob w w5) := ((HC4.out.ofNew (S := fun k => some k = (Value.slice Y j y).ownBlock)).trans hC5 (fun i hi => .inl hi)).mono (fun i hi => .inr (by have := (Kd.R_own HR4.out i hi.symm).1; have := HWW.out; omega))
          have HD5 : Hid (Chg nob w2 w5) := ((HD4.out.ofNew (S := fun k => some k = (Value.slice Y j y).ownBlock)).trans hC5 (fun i hi => .inl hi)).mono (fun i hi => .inr (Kd.R_own HR4.out i hi.symm).1)
          clear hR5 hC5 q0 q1 q2 q3 q4 q5
          go_wp2
          exact ⟨⟨j + 1, A5, c5, by omega, rfl, by go_num, HF2, HR5, HS5, HD5⟩, by simp [intOf]; omega⟩
        · have hE0 : ((E : Int) == 0) = false := by simp; omega
          have HSB : Hid (unpSE bs = E) := by show _ = _; rw [HSE.out, HTK.out.2, firstG_app HF.out, firstG, if_neg (by rw [HE.out]; exact he), HE.out]
          have HNE := Lib.hid he
          clear hc3 hc3' hca4 hnu hu hE hM he c0 c1
          go_wp2
          go_ret2
          exact sunps_bad HSB.out HNE.out HC4.out
      · obtain rfl : j = n := by omega
        have b1 : ¬ (j : Int) < (j : Int) := by omega
        have ht : xs.take j = xs := by rw [← HN.out, List.take_length]
        have hf := HF.out
        rw [ht] at hf
        have hU : unpSE bs = 0 := HSE.out.trans hf
        have hL : unpSL bs = xs.map frMs := by rw [unpSL, if_pos hU, HXS.out]
        obtain ⟨k1, k2, k3⟩ := Kd.R_read HR.out
        rw [ht] at k1 k2
        have HFIN : Hid (SUnps w bs (.returned (.tuple #[.slice Y j y, .int .i64 0])) wr) := by
          show SUnps _ _ _ _
          rw [SUnps, hU, hL]
          exact ⟨Y, j, y, rfl, k2, k3, k1, HS.out⟩
        clear ht hf hU hL k1 k2 k3 HF HR
        go_wp2
        go_ret2
        exact HFIN.out
end Go.Proofs.Ytmahjeafoogamaa
