/- Frames: what a call of the reference's Error, Bytes, Take does. -/
import Derived.Test.YtmahjeafoogamaaSumRef
import Derived.Test.YtmahjeafoogamaaFramePut
namespace Go.Proofs.Ytmahjeafoogamaa
open Go.RowKit
set_option linter.unusedVariables false
set_option linter.unusedSimpArgs false
theorem fr_error {w : World} {B : Option Addr} {m d : Nat} {body : List UInt8} (k : UInt8) (hm : body.length = m) (hsm : m ≤ 9223372036854775807) :
    Calls Try.prog 54 #[.agg #[.int .u8 k.toNat, .slice B m d]] w fun e w' => e = .returned (.int .i64 (errF (k, body))) ∧ Chg nob w w' := by
  have hc := (Chg.refl nob w).alloc (.cells #[.int .u8 k.toNat, .slice B m d] 28)
  obtain ⟨c0, c1⟩ := row2c (heap_alloc_new w (.cells #[.int .u8 k.toNat, .slice B m d] 28))
  have HC := Lib.hid hc
  have hkl := k.toNat_lt
  clear hc
  by_cases hk : k = 0
  · subst hk
    have HE : Hid (errF (0, body) = 2) := if_pos rfl
    go_enter Try.func54, Try.ntmps54
    go_wp2
    go_ret
    rw [HE.out]
    exact ⟨rfl, HC.out⟩
  · have hk0 : ((k.toNat : Int) == 0) = false := by
      have : k.toNat ≠ 0 := fun h => hk (UInt8.toNat_inj.1 h)
      simp; omega
    by_cases hlong : 1000 < m
    · have HE : Hid (errF (k, body) = 3) := by show _ = _; rw [errF, if_neg hk, if_pos (by rw [hm]; exact hlong)]
      have b1 : (1000 : Int) < (m : Int) := by omega
      clear hk hm
      go_enter Try.func54, Try.ntmps54
      go_wp2
      go_ret
      rw [HE.out]
      exact ⟨rfl, HC.out⟩
    · have HE : Hid (errF (k, body) = 0) := by show _ = _; rw [errF, if_neg hk, if_neg (by rw [hm]; exact hlong)]
      have b1 : ¬ (1000 : Int) < (m : Int) := by omega
      clear hk hm
      go_enter Try.func54, Try.ntmps54
      go_wp2
      go_ret
      rw [HE.out]
      exact ⟨rfl, HC.out⟩
/-- Three bytes of a slice that was just laid. -/
theorem lit3_own (w : World) (a b c : UInt8) : Kd.byte.R 5 (w.alloc (.cells #[.int .u8 a.toNat, .int .u8 b.toNat, .int .u8 c.toNat] 5)) w.heap.size (fun k => k = w.heap.size) (.slice (some ⟨w.heap.size, 0, none⟩) 3 3) [a, b, c] :=
  ⟨fun k hk => by cases hk; rfl, [encB a, encB b, encB c], World.ownsRow_lit w #[encB a, encB b, encB c] 3 (Nat.le_refl _) (by simp [maxLen]) (by show 3 = 3 * 1; rfl), reps_of_scalar [a, b, c]⟩
set_option maxHeartbeats 2000000 in
theorem fr_bytes {w : World} {ok : Nat → Prop} {B : Option Addr} {m d : Nat} {body : List UInt8} (k : UInt8) (hb : Kd.byte.C w ok B body) (hm : body.length = m) (hl : m ≤ 1000) :
    Calls Try.prog 55 #[.agg #[.int .u8 k.toNat, .slice B m d]] w (Tells w (frameB (k, body)) (m + 7)) := by
  have hst := put_start (A := none) (bs := []) (ok1 := fun _ => False) (k := k) (m := m) (d := d) 28 (Kd.C_nil _ _ _ _) hb
  obtain ⟨c0, c1⟩ := hst.c
  have HST := Lib.hid hst
  have HM := Lib.hid hm
  have hkl := k.toNat_lt
  have hsz1 : (w.alloc (.cells #[.int .u8 k.toNat, .slice B m d] 28)).heap.size = w.heap.size + 1 := by simp
  have e1 : Value.int .u8 ((m : Int) / 256) = encB (UInt8.ofNat (m / 256 % 256)) := by rw [← byte_mod]; congr 1; omega
  have e2 : Value.int .u8 ((m : Int) % 256) = encB (UInt8.ofNat (m % 256)) := by rw [← byte_mod]
  have hown := lit3_own (w.alloc (.cells #[.int .u8 k.toNat, .slice B m d] 28)) k (UInt8.ofNat (m / 256 % 256)) (UInt8.ofNat (m % 256))
  rw [show [k, UInt8.ofNat (m / 256 % 256), UInt8.ofNat (m % 256)] = headB (k, body) ++ body.take 0 from by unfold headB; rw [hm]; rfl, hsz1] at hown
  rw [show (.int .u8 (UInt8.ofNat (m / 256 % 256)).toNat : Value) = .int .u8 ((m : Int) / 256) from e1.symm, show (.int .u8 (UInt8.ofNat (m % 256)).toNat : Value) = .int .u8 ((m : Int) % 256) from e2.symm] at hown
  have HR0 := Lib.hid (byte_ge hown)
  have hst2 := ((Chg.refl nob (w.alloc (.cells #[.int .u8 k.toNat, .slice B m d] 28))).alloc (.cells #[.int .u8 k.toNat, .int .u8 ((m : Int) / 256), .int .u8 ((m : Int) % 256)] 5))
  have HS0 := Lib.hid hst2
  have HSZ := Lib.hid hsz1
  have hsz2 : w.heap.size + 1 ≤ ((w.alloc (.cells #[.int .u8 k.toNat, .slice B m d] 28)).alloc (.cells #[.int .u8 k.toNat, .int .u8 ((m : Int) / 256), .int .u8 ((m : Int) % 256)] 5)).heap.size := by simp
  have HZ0 := Lib.hid hsz2
  clear hst hb hm hown hst2 hsz1 hsz2 e1 e2
  go_enter Try.func55, Try.ntmps55
  go_wp2
  generalize World.alloc (World.alloc w _) _ = w1 at HR0 HS0 HZ0 ⊢
  generalize World.alloc w _ = wf at HST HS0 HSZ
  clear c0 c1
  go_loopw [3, 4] (fun v i wr => ∃ (t : Nat) (A' : Option Addr) (c' : Nat), t ≤ m ∧ v = .slice A' (3 + t) c' ∧ i = .int .i64 t ∧ Hid (Kd.byte.R 5 wr (w.heap.size + 1) (fun b => w.heap.size + 1 ≤ b) (.slice A' (3 + t) c') (headB (k, body) ++ body.take t)) ∧ Hid (Chg nob wf wr) ∧ Hid (w.heap.size + 1 ≤ wr.heap.size)) (fun _ i _ => m - (intOf i).toNat)
  case atStart => exact ⟨0, _, 3, Nat.zero_le _, rfl, rfl, HR0, HS0, HZ0⟩
  case round =>
    obtain ⟨t, A', c', ht, rfl, rfl, HR, HC, HZ⟩ := hrel
    clear HR0 HS0 HZ0
    obtain ⟨c0, c1⟩ := (HST.out.new HC.out).c
    by_cases hlt : t < m
    · obtain ⟨x, hx⟩ : ∃ x, body[t]? = some x := ⟨_, List.getElem?_eq_getElem (by rw [HM.out]; exact hlt)⟩
      obtain ⟨ad, rfl, _, ha⟩ := at_scalar (HST.out.new HC.out).b hx
      have ha' : wr.cell? (ad.add t) = some (.int .u8 x.toNat) := ha
      have b1 : (0 : Int) ≤ (t : Int) := by omega
      have b2 : (t : Int) < (m : Int) := by omega
      have HLN : Hid ((headB (k, body) ++ body.take t).length + 1 = 3 + (t + 1)) := by show _ = _; rw [List.length_append, List.length_take, HM.out]; show 3 + _ + 1 = _; omega
      have HNX : Hid (headB (k, body) ++ body.take t ++ [x] = headB (k, body) ++ body.take (t + 1)) := by
        obtain ⟨hj, he⟩ := List.getElem?_eq_some_iff.1 hx
        show _ = _
        rw [List.take_succ_eq_append_getElem hj, he, List.append_assoc]
      clear hx ha
      go_wp2_with (at_builtin; refine wp_app1B rfl _ _ rfl (w.heap.size + 1) _ (.slice A' (3 + t) c') (headB (k, body) ++ body.take t) x _ rfl rfl rfl HR.out HZ.out (3 + (t + 1)) HLN.out (by omega) ?_)
      intro A5 c5 w5 hR5 hC5 _
      have HR5 : Hid (Kd.byte.R 5 w5 (w.heap.size + 1) (fun b => w.heap.size + 1 ≤ b) (.slice A5 (3 + (t + 1)) c5) (headB (k, body) ++ body.take (t + 1))) := by
        show Kd.byte.R _ _ _ _ _ _
        rw [← HNX.out]
        have := byte_ge hR5
        simpa only [List.append_assoc] using this
      have HC5 : Hid (Chg nob wf w5) := HC.out.trans hC5 (fun i hi => .inr (by rw [HSZ.out]; exact (Kd.R_own HR.out i hi.symm).1))
      have HZ5 : Hid (w.heap.size + 1 ≤ w5.heap.size) := Nat.le_trans HZ.out hC5.size
      clear hR5 hC5 HR HC HZ c0 c1
      go_wp2
      exact ⟨⟨t + 1, A5, c5, by omega, rfl, by go_num, HR5, HC5, HZ5⟩, by simp [intOf]; omega⟩
    · have b1 : ¬ (t : Int) < (m : Int) := by omega
      obtain rfl : t = m := by omega
      rw [List.take_of_length_le (by rw [HM.out]; exact Nat.le_refl _)] at HR
      obtain ⟨k1, k2, k3⟩ := Kd.R_read HR.out
      have HK1 := Lib.hid k1
      have HK2 := Lib.hid k2
      clear k1 k2
      go_wp2_with fail
      refine (rs_sealed HK1.out HK2.out (by omega)).mono ?_
      rintro e w5 ⟨A5, c5, rfl, hl5, hm5, hC5, hc5⟩
      have HEND : Hid (Tells w (frameB (k, body)) (t + 7) (.returned (.slice A5 (3 + t + 4) c5)) w5) := by
        refine ⟨A5, c5, by rw [show 3 + t + 4 = t + 7 from by omega], ?_, by omega, Kd.C_mono hC5 (fun b hb => ?_), (HST.out.chg.thenNew HC.out).thenNew hc5⟩
        · have := hl5
          rw [show 3 + t + 4 = t + 7 from by omega] at this
          exact this
        · have := HZ.out
          omega
      clear hC5 hc5 hl5
      go_wp2
      go_ret
      exact HEND.out
theorem fr_told {y z : UInt8} {m : Nat} : True := trivial
/-- What the reference's Take gives. -/
def TakenR (w : World) (ok : Nat → Prop) (bs : List UInt8) (e : Ending) (w' : World) : Prop :=
  Chg nob w w' ∧ ((takeE bs ≠ 0 ∧ e = .returned (.tuple #[.agg #[.int .u8 0, .slice none 0 0], .int .i64 0, .int .i64 (takeE bs)])) ∨
    (takeE bs = 0 ∧ ∃ A c, e = .returned (.tuple #[.agg #[.int .u8 (frOf bs).1.toNat, .slice A (told bs) c], .int .i64 (((told bs + 7 : Nat)) : Int), .int .i64 0]) ∧ told bs ≤ c ∧ Kd.byte.C w' ok A (frOf bs).2))
end Go.Proofs.Ytmahjeafoogamaa
