/- Frames: what a call of Size, Put does. -/
import Derived.Test.YtmahjeafoogamaaSumSealed
namespace Go.Proofs.Ytmahjeafoogamaa
open Go.RowKit
set_option linter.unusedVariables false
set_option linter.unusedSimpArgs false
/-- A frame in block n, its body, bytes. -/
structure PutSt (w0 : World) (n : Nat) (ok1 ok2 : Nat → Prop) (A : Option Addr) (bs : List UInt8) (k : UInt8) (B : Option Addr) (m d : Nat) (body : List UInt8) (w : World) : Prop where
  a : Kd.byte.C w ok1 A bs
  b : Kd.byte.C w ok2 B body
  c : w.cell? ⟨n, 0, none⟩ = some (.int .u8 k.toNat) ∧ w.cell? ⟨n, 1, none⟩ = some (.slice B m d)
  chg : Chg nob w0 w
theorem PutSt.new {w0 w w' : World} {n : Nat} {ok1 ok2 : Nat → Prop} {A : Option Addr} {bs : List UInt8} {k : UInt8} {B : Option Addr} {m d : Nat} {body : List UInt8} (h : PutSt w0 n ok1 ok2 A bs k B m d body w) (hc : Chg nob w w') : PutSt w0 n ok1 ok2 A bs k B m d body w' :=
  ⟨Kd.C_new h.a hc, Kd.C_new h.b hc, ⟨hc.cell h.c.1 (not_nob _), hc.cell h.c.2 (not_nob _)⟩, h.chg.thenNew hc⟩
theorem row2c {w : World} {g t : Nat} {a b : Value} (h : w.heap[g]? = some (.cells #[a, b] t (0, 0))) : w.cell? ⟨g, 0, none⟩ = some a ∧ w.cell? ⟨g, 1, none⟩ = some b :=
  ⟨by rw [cell_of_row w g 0 _ _ _ h]; rfl, by rw [cell_of_row w g 1 _ _ _ h]; rfl⟩
theorem put_start {w : World} {ok1 ok2 : Nat → Prop} {A : Option Addr} {bs : List UInt8} {k : UInt8} {B : Option Addr} {m d : Nat} {body : List UInt8} (t : Nat) (ha : Kd.byte.C w ok1 A bs) (hb : Kd.byte.C w ok2 B body) :
    PutSt w w.heap.size ok1 ok2 A bs k B m d body (w.alloc (.cells #[.int .u8 k.toNat, .slice B m d] t)) :=
  ⟨Kd.C_new ha ((Chg.refl _ _).alloc _), Kd.C_new hb ((Chg.refl _ _).alloc _), row2c (heap_alloc_new w _), (Chg.refl _ _).alloc _⟩
def sizeF (n : Int) : Int := if 0 ≤ n ∧ n ≤ 1000 then n + 7 else 0
/-- What Put gives. -/
def Puts (w : World) (l : List UInt8) (m : Nat) (er : Nat) (e : Ending) (w' : World) : Prop :=
  Chg nob w w' ∧ ((er ≠ 0 ∧ e = .returned (.tuple #[.slice none 0 0, .int .i64 er])) ∨ (er = 0 ∧ ∃ A c, e = .returned (.tuple #[.slice A m c, .int .i64 0]) ∧ l.length = m ∧ m ≤ c ∧ Kd.byte.C w' (fun b => w.heap.size ≤ b) A l))
set_option maxRecDepth 100000 in
set_option maxHeartbeats 4000000 in
theorem f_put {w : World} {ok1 ok2 : Nat → Prop} {A B : Option Addr} {n c m d : Nat} {bs body : List UInt8} {k : UInt8} (ha : Kd.byte.C w ok1 A bs) (hb : Kd.byte.C w ok2 B body) (hn : bs.length = n) (hm : body.length = m) (hmd : m ≤ d) (hl : n ≤ 1000000000) :
    Calls Try.prog 53 #[.slice A n c, .agg #[.int .u8 k.toNat, .slice B m d]] w (Puts w (bs ++ frameB (k, body)) (n + (m + 7)) (errF (k, body))) := by
  have hst := put_start (k := k) (m := m) (d := d) 28 ha hb
  have hsm := hb.small
  rw [hm] at hsm
  obtain ⟨c0, c1⟩ := hst.c
  have HST := Lib.hid hst
  have HN := Lib.hid hn
  have HM := Lib.hid hm
  have hkl := k.toNat_lt
  clear hst ha hb hn hm
  by_cases hk : k = 0
  · subst hk
    have HE : Hid (errF (0, body) = 2) := if_pos rfl
    go_enter Try.func53, Try.ntmps53
    go_wp2
    go_ret2
    rw [HE.out]
    exact ⟨HST.out.chg, .inl ⟨by decide, rfl⟩⟩
  · have hk0 : ((k.toNat : Int) == 0) = false := by
      have : k.toNat ≠ 0 := fun h => hk (UInt8.toNat_inj.1 h)
      simp; omega
    by_cases hlong : 1000 < m
    · have HE : Hid (errF (k, body) = 3) := by show _ = _; rw [errF, if_neg hk, if_pos (by rw [HM.out]; exact hlong)]
      have b1 : (1000 : Int) < (m : Int) := by omega
      clear hk
      go_enter Try.func53, Try.ntmps53
      go_wp2
      go_ret2
      rw [HE.out]
      exact ⟨HST.out.chg, .inl ⟨by decide, rfl⟩⟩
    · have HE : Hid (errF (k, body) = 0) := by show _ = _; rw [errF, if_neg hk, if_neg (by rw [HM.out]; exact hlong)]
      have b1 : ¬ (1000 : Int) < (m : Int) := by omega
      clear hk
      have hm1 : m ≤ 1000 := by omega
      have HH : Hid (Kd.byte.C ((w.alloc (.cells #[.int .u8 k.toNat, .slice B m d] 28)).alloc (.cells #[.int .u8 k.toNat, .int .u8 ((m : Int) / 256), .int .u8 ((m : Int) % 256)] 5)) (fun b => b = w.heap.size + 1) (some ⟨w.heap.size + 1, 0, none⟩) (headB (k, body))) := by
        refine C_block (t := 5) (fr := (0, 0)) (cs := #[.int .u8 k.toNat, .int .u8 ((m : Int) / 256), .int .u8 ((m : Int) % 256)]) ?_ ?_ (by show 3 ≤ _; decide)
        · have := heap_alloc_new (w.alloc (.cells #[.int .u8 k.toNat, .slice B m d] 28)) (.cells #[.int .u8 k.toNat, .int .u8 ((m : Int) / 256), .int .u8 ((m : Int) % 256)] 5)
          rw [show (w.alloc (.cells #[.int .u8 k.toNat, .slice B m d] 28)).heap.size = w.heap.size + 1 from by simp] at this
          exact this
        · unfold headB
          rw [HM.out]
          show [_, _, _] = [_, _, _]
          have e1 : encB (UInt8.ofNat (m / 256 % 256)) = .int .u8 ((m : Int) / 256) := by rw [← byte_mod]; congr 1; omega
          have e2 : encB (UInt8.ofNat (m % 256)) = .int .u8 ((m : Int) % 256) := by rw [← byte_mod]
          rw [e1, e2]
          rfl
      have hst2 := HST.out.new ((Chg.refl nob _).alloc (.cells #[.int .u8 k.toNat, .int .u8 ((m : Int) / 256), .int .u8 ((m : Int) % 256)] 5))
      have hgs : ((w.alloc (.cells #[.int .u8 k.toNat, .slice B m d] 28)).alloc (.cells #[.int .u8 k.toNat, .int .u8 ((m : Int) / 256), .int .u8 ((m : Int) % 256)] 5)).heap.size = w.heap.size + 2 := by simp
      have HGS := Lib.hid hgs
      have HST2 := Lib.hid hst2
      clear hst2 hgs
      go_enter Try.func53, Try.ntmps53
      go_wp2
      clear c0 c1 HST
      generalize hw2 : World.alloc (World.alloc w _) _ = w2 at HH HST2 HGS ⊢
      clear hw2
      generalize hgb : w.heap.size + 1 = gb at HH ⊢
      have hg0 : w.heap.size ≤ w2.heap.size := HST2.out.chg.size
      refine wp_region_held_drew (S := fun wx => PutSt w w.heap.size ok1 ok2 A bs k B m d body wx ∧ Kd.byte.C wx (fun b => b = gb) (some ⟨gb, 0, none⟩) (headB (k, body))) (by kernel_rfl) (⟨HST2.out.new ((Chg.refl _ _).drew), Kd.C_new HH.out ((Chg.refl _ _).drew)⟩) (fun hHeld => ?_)
      refine wpAnyH_take (i := 1) (v := ?_) (pickS pick0) (by kernel_rfl) (by kernel_rfl) (by kernel_rfl) (fun _ _ _ h => h) (Or.inl ⟨by rfl, ?_⟩) (by assumption) ?_
      rotate_left 1
      · (intro wx hSw; go_simp; try with_reducible rfl)
      try simp only [Act.put, List.setIfInBounds_toArray, List.set_cons_zero, List.set_cons_succ]
      refine wpAnyH_take (i := 3) (v := ?_) (pickS (pickS (pickS pick0))) (by kernel_rfl) (by kernel_rfl) (by kernel_rfl) (fun _ _ _ h => h) (Or.inl ⟨by rfl, ?_⟩) (by assumption) ?_
      rotate_left 1
      · (intro wx hSw; go_simp; try with_reducible rfl)
      try simp only [Act.put, List.setIfInBounds_toArray, List.set_cons_zero, List.set_cons_succ]
      refine wpAnyH_take (i := 5) (v := ?_) (pickS (pickS (pickS (pickS (pickS pick0))))) (by kernel_rfl) (by kernel_rfl) (by kernel_rfl) (fun _ _ _ h => h) (Or.inl ⟨by rfl, ?_⟩) (by assumption) ?_
      rotate_left 1
      · (intro wx hSw; go_simp; try with_reducible rfl)
      try simp only [Act.put, List.setIfInBounds_toArray, List.set_cons_zero, List.set_cons_succ]
      refine wpAnyH_take (i := 6) (v := ?_) (pickS (pickS (pickS (pickS (pickS (pickS pick0)))))) (by kernel_rfl) (by kernel_rfl) (by kernel_rfl) (fun _ _ _ h => h) (Or.inl ⟨by rfl, ?_⟩) (by assumption) ?_
      rotate_left 1
      · (intro wx hSw; obtain ⟨q0, q1⟩ := hSw.1.c; go_simp; try with_reducible rfl)
      try simp only [Act.put, List.setIfInBounds_toArray, List.set_cons_zero, List.set_cons_succ]
      refine wpAnyH_ready (rs := [0]) (by kernel_rfl) (by simp) ?_
      refine AllReadyH.cons pick0 (fun K hK => ?_) AllReadyH.nil
      go_simp
      have HN3 : Hid (Chg nob w2 (w2.alloc (.cells #[] 5)).drew) := ((Chg.refl nob w2).alloc _).drew
      have HE3 : Hid (Kd.byte.R 5 (w2.alloc (.cells #[] 5)).drew w2.heap.size (fun b => w2.heap.size ≤ b) (.slice (some ⟨w2.heap.size, 0, none⟩) 0 0) ([] : List UInt8)) := Kd.R_new (byte_ge (empty_own w2 w2.heap.size 5 Kd.byte (Nat.le_refl _))) ((Chg.refl _ _).drew)
      refine hK.out _ _ (⟨HST2.out.new HN3.out, Kd.C_new HH.out HN3.out⟩) (fun hHeld => ?_)
      clear hK K
      try simp only [Act.put, List.setIfInBounds_toArray, List.set_cons_zero, List.set_cons_succ]
      refine wpAnyH_ready (rs := [2]) (by kernel_rfl) (by simp) ?_
      refine AllReadyH.cons (pickS (pickS pick0)) (fun K hK => ?_) AllReadyH.nil
      refine step_appB rfl _ _ rfl w2.heap.size _ _ (.slice (some ⟨w2.heap.size, 0, none⟩) 0 0) ([] : List UInt8) bs A n c rfl rfl HN.out HE3.out hHeld.1.a HN3.out.size n (by simp) (by omega) ?_
      intro A6 c6 w6 hR6 hC6 _
      have HN6 : Hid (Chg nob w2 w6) := HN3.out.trans hC6 (fun i hi => .inr (Kd.R_own HE3.out i hi.symm).1)
      have HR6 := Lib.hid (byte_ge hR6)
      clear hR6 hC6 HE3
      refine hK.out _ _ (⟨HST2.out.new HN6.out, Kd.C_new HH.out HN6.out⟩) (fun hHeld => ?_)
      clear hK K
      try simp only [Act.put, List.setIfInBounds_toArray, List.set_cons_zero, List.set_cons_succ]
      refine wpAnyH_ready (rs := [4]) (by kernel_rfl) (by simp) ?_
      refine AllReadyH.cons (pickS (pickS (pickS (pickS pick0)))) (fun K hK => ?_) AllReadyH.nil
      refine step_appB rfl _ _ rfl w2.heap.size _ _ (.slice A6 n c6) ([] ++ bs) (headB (k, body)) (some ⟨gb, 0, none⟩) 3 3 rfl rfl rfl HR6.out hHeld.2 HN6.out.size (n + 3) (by rw [List.nil_append, HN.out]) (by omega) ?_
      intro A7 c7 w7 hR7 hC7 _
      have HN7 : Hid (Chg nob w2 w7) := HN6.out.trans hC7 (fun i hi => .inr (Kd.R_own HR6.out i hi.symm).1)
      have HR7 := Lib.hid (byte_ge hR7)
      clear hR7 hC7 HR6
      refine hK.out _ _ (⟨HST2.out.new HN7.out, Kd.C_new HH.out HN7.out⟩) (fun hHeld => ?_)
      clear hK K
      try simp only [Act.put, List.setIfInBounds_toArray, List.set_cons_zero, List.set_cons_succ]
      refine wpAnyH_ready (rs := [7]) (by kernel_rfl) (by simp) ?_
      refine AllReadyH.cons (pickS (pickS (pickS (pickS (pickS (pickS (pickS pick0))))))) (fun K hK => ?_) AllReadyH.nil
      refine step_appB rfl _ _ rfl w2.heap.size _ _ (.slice A7 (n + 3) c7) ([] ++ bs ++ headB (k, body)) body B m d rfl rfl HM.out HR7.out hHeld.1.b HN7.out.size (n + 3 + m) (by rw [List.nil_append, List.length_append, HN.out]; rfl) (by omega) ?_
      intro A8 c8 w8 hR8 hC8 _
      have HN8 : Hid (Chg nob w2 w8) := HN7.out.trans hC8 (fun i hi => .inr (Kd.R_own HR7.out i hi.symm).1)
      have HR8 := Lib.hid (byte_ge hR8)
      clear hR8 hC8 HR7
      refine hK.out _ _ (⟨HST2.out.new HN8.out, Kd.C_new HH.out HN8.out⟩) (fun hHeld => ?_)
      clear hK K
      try simp only [Act.put, List.setIfInBounds_toArray, List.set_cons_zero, List.set_cons_succ]
      refine wpAnyH_take (i := 8) (v := ?_) (pickS (pickS (pickS (pickS (pickS (pickS (pickS (pickS pick0)))))))) (by kernel_rfl) (by kernel_rfl) (by kernel_rfl) (fun _ _ _ h => h) (Or.inl ⟨by rfl, ?_⟩) (by assumption) ?_
      rotate_left 1
      · (intro wx hSw; go_simp; try with_reducible rfl)
      try simp only [Act.put, List.setIfInBounds_toArray, List.set_cons_zero, List.set_cons_succ]
      refine wpAnyH_done (by kernel_rfl) ?_ _
      clear hHeld
      have hst8 := HST2.out.new HN8.out
      have HH8 := Lib.hid (Kd.C_new HH.out HN8.out)
      obtain ⟨c0, c1⟩ := hst8.c
      have hcell := row2c (heap_alloc_new w8 (.cells #[.slice (some ⟨gb, 0, none⟩) 3 3, .slice B m d] 26))
      have hc9 : Chg nob w8 (w8.alloc (.cells #[.slice (some ⟨gb, 0, none⟩) 3 3, .slice B m d] 26)) := (Chg.refl _ _).alloc _
      have HST9 := Lib.hid (hst8.new hc9)
      have HH9 := Lib.hid (Kd.C_new HH8.out hc9)
      have HN9 := Lib.hid (HN8.out.thenNew hc9)
      have HR9 := Lib.hid (Kd.R_new HR8.out hc9)
      clear hst8 hc9
      go_wp2_with fail
      generalize w8.alloc _ = w9 at hcell HST9 HH9 HN9 HR9 ⊢
      clear HN8 HR8 HH8
      refine (m_sum2 HH9.out rfl HST9.out.b HM.out hcell.1 hcell.2).mono ?_
      rintro e w' ⟨rfl, rfl⟩
      clear hcell c0 c1
      go_wp2_with fail
      refine (m_bytes _).mono ?_
      rintro e w10 ⟨g, rfl, hg, hC10, hc10⟩
      have HN10 := Lib.hid (HN9.out.thenNew hc10)
      have HR10 := Lib.hid (Kd.R_new HR9.out hc10)
      have HC10 := Lib.hid hC10
      have HLE : Hid (([] ++ bs ++ headB (k, body) ++ body).length + 4 = n + (m + 7)) := by
        show _ = _
        rw [List.nil_append, List.length_append, List.length_append, HN.out, HM.out]
        show n + 3 + m + 4 = _
        omega
      have HNW := Lib.hid (HST2.out.chg)
      clear hC10 hc10 HST9 HH9 HR9
      go_wp2_with (at_builtin; refine wp_appB rfl _ _ rfl w2.heap.size _ _ (.slice A8 (n + 3 + m) c8) ([] ++ bs ++ headB (k, body) ++ body) (be4 (crc (headB (k, body) ++ body))) (some ⟨g, 0, none⟩) 4 4 rfl rfl (be4_len _) HR10.out HC10.out HN10.out.size (n + (m + 7)) HLE.out (by omega) ?_)
      intro A11 c11 w11 hR11 hC11 _
      have HN11 : Hid (Chg nob w w11) := HNW.out.thenNew (HN10.out.trans hC11 (fun i hi => .inr (Kd.R_own HR10.out i hi.symm).1))
      have HEND : Hid ((bs ++ frameB (k, body)).length = n + (m + 7) ∧ n + (m + 7) ≤ c11 ∧ Kd.byte.C w11 (fun b => w.heap.size ≤ b) A11 (bs ++ frameB (k, body))) := by
        obtain ⟨k1, k2, k3⟩ := Kd.R_read (byte_ge hR11)
        have he : bs ++ (headB (k, body) ++ (body ++ be4 (crc (headB (k, body) ++ body)))) = bs ++ frameB (k, body) := by simp [frameB, sealB]
        rw [he] at k1 k2
        exact ⟨k2, k3, Kd.C_mono k1 (fun b hb => Nat.le_trans hg0 hb)⟩
      clear hR11 hC11
      go_wp2
      go_ret2
      rw [HE.out]
      exact ⟨HN11.out, .inr ⟨rfl, A11, c11, rfl, HEND.out⟩⟩
end Go.Proofs.Ytmahjeafoogamaa
