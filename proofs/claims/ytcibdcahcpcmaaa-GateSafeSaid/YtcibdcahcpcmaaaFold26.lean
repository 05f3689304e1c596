import Derived.Test.YtcibdcahcpcmaaaFold24
import Derived.Test.YtcibdcahcpcmaaaFold25
import Derived.OwnWalk
import Derived.Laws.Bits64b
/- Bytes and their sum: what a call of the reference's Put does. -/
namespace Go.Proofs.Ytcibdcahcpcmaaa
open Go.RowKit
set_option maxRecDepth 100000
set_option linter.unusedVariables false
set_option linter.unusedSimpArgs false
theorem beB_next {n t : Nat} (ht : t < 8) : (beB n).take t ++ [UInt8.ofNat (n / 2 ^ (8 * (7 - t)) % 256)] = (beB n).take (t + 1) := by
  have : t = 0 ∨ t = 1 ∨ t = 2 ∨ t = 3 ∨ t = 4 ∨ t = 5 ∨ t = 6 ∨ t = 7 := by omega
  rcases this with rfl | rfl | rfl | rfl | rfl | rfl | rfl | rfl <;> simp [beB]
theorem div_next (n j : Nat) : n / 2 ^ (8 * j) / 256 = n / 2 ^ (8 * (j + 1)) := by
  rw [Nat.div_div_eq_div_mul, show 8 * (j + 1) = 8 * j + 8 from by omega, Nat.pow_add]
theorem r_put {w : World} {k0 k1 : Nat} (h0 : k0 < 18446744073709551616) (h1 : k1 < 18446744073709551616) {ok : Nat → Prop} {A : Option Addr} {m c : Nat} {bs : List UInt8} (hb : Kd.byte.C w ok A bs) (hok : ∀ b, ok b → b < w.heap.size) (hm : bs.length = m) (hl : m ≤ 140737488351232) :
    Calls Try.prog 25 #[.int .u64 k0, .int .u64 k1, .slice A m c] w (Tells w (sealed k0 k1 bs) (m + 8)) := by
  have HB := Lib.hid hb
  have HM := Lib.hid hm
  have HOK := Lib.hid hok
  clear hb hm hok
  go_enter Try.func25, Try.ntmps25
  go_wp2_with fail
  refine (r_sum h0 h1 HB.out HOK.out HM.out hl).mono ?_
  rintro e w2 ⟨rfl, hc2⟩
  obtain ⟨S, hS⟩ : ∃ S, sumN k0 k1 bs = S := ⟨_, rfl⟩
  have hSl : S < 18446744073709551616 := by rw [← hS]; exact sumN_lt h0 h1 bs
  rw [hS]
  have HS := Lib.hid hS
  have hs2 := hc2.size
  have HC2 := Lib.hid hc2
  clear hS hc2
  go_wp2_with (at_builtin; refine wp_appB rfl _ _ rfl w.heap.size (fun _ => False) ok (.slice none 0 0) [] bs A m c rfl rfl HM.out (Kd.R_nil _ _ _ _ _) (Kd.C_new HB.out HC2.out) hs2 m (by simp) (by omega) ?_)
  intro A1 c1 w1 hR1 hC1 _
  have hn1 : Chg nob w w1 := HC2.out.trans hC1 (fun i hi => by cases hi)
  have hs1 := hn1.size
  have HR1 := Lib.hid (byte_ge hR1)
  have HN1 := Lib.hid hn1
  clear hR1 hC1 hn1
  go_wp2
  go_loopw [8, 9] (fun v i wr => ∃ (t : Nat) (A' : Option Addr) (c' : Nat), t ≤ 8 ∧ v = .slice A' (m + t) c' ∧ i = .int .i64 (7 - (t : Int)) ∧ Hid (Kd.byte.R 5 wr w.heap.size (fun b => w.heap.size ≤ b) (.slice A' (m + t) c') (bs ++ (beB S).take t)) ∧ Hid (Chg nob w wr) ∧ w.heap.size ≤ wr.heap.size) (fun _ i _ => (intOf i + 1).toNat)
  case atStart => exact ⟨0, A1, c1, by decide, rfl, rfl, by show Kd.byte.R _ _ _ _ _ _; simpa using HR1.out, HN1.out, hs1⟩
  case round =>
    obtain ⟨t, A', c', ht, rfl, rfl, HR, HC, hsz⟩ := hrel
    by_cases hlt : t < 8
    · have b1 : (0 : Int) ≤ 7 - (t : Int) := by omega
      go_wp2
      go_loopw [10, 11] (fun x i wx => ∃ j : Nat, j ≤ 7 - t ∧ x = .int .u64 ((S / 2 ^ (8 * j) : Nat) : Int) ∧ i = .int .i64 j ∧ wx = wr) (fun _ i _ => 7 - (intOf i).toNat)
      case atStart => exact ⟨0, Nat.zero_le _, by simp, rfl, rfl⟩
      case round =>
        obtain ⟨j, hj, rfl, rfl, rfl⟩ := hrel
        by_cases hjl : j < 7 - t
        · have b2 : (j : Int) < 7 - (t : Int) := by omega
          have HX : Hid ((((S / 2 ^ (8 * j) : Nat) : Int) / 256) = ((S / 2 ^ (8 * (j + 1)) : Nat) : Int)) := by show _ = _; rw [← div_next]; omega
          obtain ⟨X, hX⟩ : ∃ X, S / 2 ^ (8 * j) = X := ⟨_, rfl⟩
          have hXl : X < 18446744073709551616 := by rw [← hX]; exact Nat.lt_of_le_of_lt (Nat.div_le_self _ _) hSl
          rw [hX] at HX ⊢
          clear hX
          go_wp2
          rw [HX.out]
          exact ⟨⟨j + 1, by omega, rfl, by go_num, trivial⟩, by simp [intOf]; omega⟩
        · have b2 : ¬ (j : Int) < 7 - (t : Int) := by omega
          have hjt : j = 7 - t := by omega
          subst hjt
          have HLN : Hid ((bs ++ (beB S).take t).length + 1 = m + (t + 1)) := by show _ = _; rw [List.length_append, HM.out, List.length_take, beB_len]; omega
          have HNX := Lib.hid (beB_next (n := S) hlt)
          obtain ⟨X, hX⟩ : ∃ X, S / 2 ^ (8 * (7 - t)) = X := ⟨_, rfl⟩
          rw [hX] at HNX ⊢
          clear hX
          go_wp2_with (at_builtin; refine wp_app1B rfl _ _ rfl w.heap.size _ (.slice A' (m + t) c') (bs ++ (beB S).take t) (UInt8.ofNat (X % 256)) _ (byte_mod X) rfl rfl HR.out hsz (m + (t + 1)) HLN.out (by omega) ?_)
          intro A5 c5 w5 hR5 hC5 _
          have HR5 : Hid (Kd.byte.R 5 w5 w.heap.size (fun b => w.heap.size ≤ b) (.slice A5 (m + (t + 1)) c5) (bs ++ (beB S).take (t + 1))) := by
            show Kd.byte.R _ _ _ _ _ _
            rw [← HNX.out, ← List.append_assoc]
            have := byte_ge hR5
            simpa only [List.append_assoc] using this
          have HC5 : Hid (Chg nob w w5) := HC.out.trans hC5 (fun i hi => .inr (Kd.R_own HR.out i hi.symm).1)
          have hs5 := hC5.size
          clear hR5 hC5 HR HC
          go_wp2
          exact ⟨⟨t + 1, A5, c5, by omega, rfl, by go_num, HR5, HC5, by omega⟩, by simp [intOf]; omega⟩
    · have ht8 : t = 8 := by omega
      subst ht8
      have HEND : Hid (Tells w (sealed k0 k1 bs) (m + 8) (.returned (.slice A' (m + 8) c')) wr) := by
        obtain ⟨k1', k2', k3'⟩ := Kd.R_read HR.out
        refine ⟨A', c', rfl, ?_, k3', ?_, HC.out⟩
        · rw [sealed, List.length_append, beB_len, HM.out]
        · rw [sealed, HS.out]
          exact k1'
      clear HR HC
      go_wp2
      go_ret
      exact HEND.out
end Go.Proofs.Ytcibdcahcpcmaaa

/- Tokens: a refused Issue; the reference's bytes. -/
namespace Go.Proofs.Ytcibdcahcpcmaaa
open Go.RowKit
set_option maxRecDepth 100000
set_option linter.unusedVariables false
set_option linter.unusedSimpArgs false
theorem t_refused {w : World} {k0 k1 : Nat} (s : ByteArray) (hs : s.size ≤ 9223372036854775807) (nd inc idx : Int) (hok : tokOk s nd = false) :
    Calls Try.prog 23 #[.agg #[.int .u64 k0, .int .u64 k1], .agg #[.string s, .int .i64 nd, .int .u32 inc, .int .u64 idx]] w fun e w' => e = .returned (.tuple #[.slice none 0 0, .int .i64 2]) ∧ Chg nob w w' := by
  have HOK := Lib.hid hok
  have hc0 : Chg nob w ((w.alloc (.cells #[.int .u64 k0, .int .u64 k1] 70)).alloc (.cells #[.string s, .int .i64 nd, .int .u32 inc, .int .u64 idx] 45)) := ((Chg.refl _ _).alloc _).alloc _
  clear hok
  go_enter Try.func23, Try.ntmps23
  go_wp2_with fail
  refine (t_right s hs nd inc idx).mono ?_
  rintro e w2 ⟨rfl, hc2⟩
  rw [HOK.out]
  have hc := hc0.thenNew hc2
  clear hc0 hc2
  go_wp2
  go_ret2
  exact ⟨rfl, hc⟩
theorem iss_move {w0 w w' : World} {n k0 k1 : Nat} {s : ByteArray} {nd inc idx : Nat} {S : Nat → Prop} (h : IssSt w0 n k0 k1 s nd inc idx w) (hc : Chg S w w') (hS : ∀ i, S i → n + 1 < i ∧ w0.heap.size ≤ i) : IssSt w0 n k0 k1 s nd inc idx w' := by
  obtain ⟨⟨⟨a0, a1⟩, b0, b1, b2, b3⟩, h2⟩ := h
  have e0 : ¬ S n := fun e => by have := hS n e; omega
  have e1 : ¬ S (n + 1) := fun e => by have := hS _ e; omega
  exact ⟨⟨⟨hc.cell a0 e0, hc.cell a1 e0⟩, hc.cell b0 e1, hc.cell b1 e1, hc.cell b2 e1, hc.cell b3 e1⟩, h2.trans hc (fun i hi => .inr (hS i hi).2)⟩
end Go.Proofs.Ytcibdcahcpcmaaa

/- field.number and the reference's number: what bytes begin with. -/
namespace Go.Proofs.Ytcibdcahcpcmaaa
open Go.RowKit
set_option maxRecDepth 100000
set_option linter.unusedVariables false
/-- The number that bytes spell, the highest first. -/
def beV (n : Nat) (l : List UInt8) : Nat := l.foldl (fun n b => n * 256 + b.toNat) n
theorem beV_take (n : Nat) (l : List UInt8) (j : Nat) (x : UInt8) (hx : l[j]? = some x) : beV n (l.take (j + 1)) = beV n (l.take j) * 256 + x.toNat := by
  rw [List.take_add_one, hx]
  simp [beV]
theorem beV_lt (l : List UInt8) : beV 0 l < 256 ^ l.length := by
  have : ∀ (l : List UInt8) (n k : Nat), n < 256 ^ k → beV n l < 256 ^ (k + l.length) := by
    intro l
    induction l with
    | nil => intro n k h; simpa [beV] using h
    | cons x l ih =>
      intro n k h
      have := x.toNat_lt
      have h2 := ih (n * 256 + x.toNat) (k + 1) (by rw [Nat.pow_succ]; omega)
      rw [List.length_cons, show k + (l.length + 1) = k + 1 + l.length from by omega]
      exact h2
  have := this l 0 0 (by simp)
  simpa using this
theorem beV_lt8 (l : List UInt8) (h : l.length ≤ 8) : beV 0 l < 18446744073709551616 := by
  have h1 := beV_lt l
  have h2 : 256 ^ l.length ≤ 256 ^ 8 := Nat.pow_le_pow_right (by omega) h
  have h3 : (256 : Nat) ^ 8 = 18446744073709551616 := by decide
  omega
theorem at_bytes {w : World} {ok : Nat → Prop} {A : Option Addr} {x : UInt8} {t : List UInt8} (h : Kd.byte.C w ok A (x :: t)) :
    ∃ b o, A = some ⟨b, o, none⟩ ∧ ok b ∧ ∀ (j : Nat) (y : UInt8), (x :: t)[j]? = some y → w.cell? ⟨b, o + j, none⟩ = some (.int .u8 (y.toNat : Int)) := by
  obtain ⟨b, o, c, e, ho, hk, hc⟩ := Kd.C_at' h (j := 0) (x := x) rfl
  refine ⟨b, o, e, ho, fun j y hy => ?_⟩
  obtain ⟨b', o', c', e', _, hk', hc'⟩ := Kd.C_at' h hy
  rw [e] at e'
  cases e'
  have h1 : c' = [.int .u8 (y.toNat : Int)] := hk'
  subst h1
  have h2 := hc' 0 _ rfl
  rw [show Kd.byte.sz = 1 from rfl, Nat.mul_one, Nat.add_zero] at h2
  exact h2
theorem or_byte (V Y : Nat) (hV : V < 72057594037927936) (hY : Y < 2 ^ 8) : bits .or .u64 ((V : Int) * 256) (Y : Int) = ((V * 256 + Y : Nat) : Int) := by
  rw [show (V : Int) * 256 = ((V * 256 : Nat) : Int) from by omega, bits_or_u64_nat _ _ (by omega) (by omega), Nat.mul_comm V 256, show (256 : Nat) = 2 ^ 8 from rfl, Nat.two_pow_add_eq_or_of_lt hY]
/-- What bytes begin with: the number, how many bytes it has, the error. -/
def numAt (bs : List UInt8) : Nat × Nat × Nat :=
  match bs with
  | [] => (0, 0, 30)
  | k :: t => if 8 < k.toNat ∨ (0 < k.toNat ∧ t.head? = some 0) then (0, 0, 40) else if bs.length < k.toNat + 1 then (0, 0, 30) else (beV 0 (t.take k.toNat), k.toNat + 1, 0)
def numV (x : Nat × Nat × Nat) : Value := .tuple #[.int .u64 (x.1 : Int), .int .i64 (x.2.1 : Int), .int .i64 (x.2.2 : Int)]
set_option maxHeartbeats 2000000 in
theorem field_number {w : World} {ok : Nat → Prop} {A : Option Addr} {m c : Nat} {bs : List UInt8} (hb : Kd.byte.C w ok A bs) (hm : bs.length = m) (hc : m ≤ c) :
    Calls Try.prog 78 #[.slice A m c] w fun e w' => e = .returned (numV (numAt bs)) ∧ Chg nob w w' := by
  have hs := hb.small
  go_enter Try.func78, Try.ntmps78
  cases bs with
  | nil =>
    obtain rfl : m = 0 := hm.symm
    go_wp2
    go_ret3
    exact ⟨rfl, Chg.refl _ _⟩
  | cons k t =>
    obtain ⟨b, o, rfl, _, hcells⟩ := at_bytes hb
    have hk0 : w.cell? ⟨b, o, none⟩ = some (.int .u8 (k.toNat : Int)) := hcells 0 k rfl
    have HC := Lib.hid hcells
    clear hcells
    have hk256 := k.toNat_lt
    obtain ⟨K, hK⟩ : ∃ K, k.toNat = K := ⟨_, rfl⟩
    rw [hK] at hk0 hk256
    have hm0 : 0 < m := by rw [← hm]; simp
    have hms : m ≤ 9223372036854775807 := by rw [← hm]; exact hs
    have HM := Lib.hid hm
    have HK := Lib.hid hK
    clear hm hK hs
    by_cases h8 : 8 < K
    · have HE : Hid (numV (numAt (k :: t)) = numV (0, 0, 40)) := by show _ = _; rw [numAt, if_pos (.inl (by rw [HK.out]; exact h8))]
      go_wp2
      go_ret3
      refine ⟨?_, Chg.refl _ _⟩
      rw [HE.out]
      rfl
    · by_cases hz : 0 < K ∧ t.head? = some 0
      · obtain ⟨hz0, hz1⟩ := hz
        have HE : Hid (numV (numAt (k :: t)) = numV (0, 0, 40)) := by show _ = _; rw [numAt, if_pos (.inr ⟨by rw [HK.out]; exact hz0, hz1⟩)]
        cases t with
        | nil => cases hz1
        | cons x t =>
          obtain rfl : x = 0 := by simpa using hz1
          have hx1 : w.cell? ⟨b, o + 1, none⟩ = some (.int .u8 0) := HC.out 1 0 rfl
          have hm1 : 1 < m := by rw [← HM.out]; simp
          go_wp2
          go_ret3
          refine ⟨?_, Chg.refl _ _⟩
          rw [HE.out]
          rfl
      · have hnz : ¬ (8 < k.toNat ∨ (0 < k.toNat ∧ t.head? = some 0)) := by rw [HK.out]; rintro (h | h); exact h8 h; exact hz h
        by_cases hl : m < K + 1
        · have HE : Hid (numV (numAt (k :: t)) = numV (0, 0, 30)) := by show _ = _; rw [numAt, if_neg hnz, if_pos (by rw [HM.out, HK.out]; exact hl)]
          have HZ := Lib.hid hnz
          clear hnz hz
          have h0 : 0 < K := by omega
          cases t with
          | nil =>
            have hm1 : m = 1 := by rw [← HM.out]; rfl
            subst hm1
            go_wp2
            go_ret3
            refine ⟨?_, Chg.refl _ _⟩
            rw [HE.out]
            rfl
          | cons x t =>
            obtain ⟨X, hX⟩ : ∃ X, x.toNat = X := ⟨_, rfl⟩
            have hX0 : 0 < X := by
              apply Nat.pos_of_ne_zero
              intro e
              refine HZ.out (.inr ⟨by rw [HK.out]; exact h0, ?_⟩)
              have : x = 0 := by apply UInt8.toNat.inj; rw [hX, e]; rfl
              rw [this]; rfl
            have hx1 : w.cell? ⟨b, o + 1, none⟩ = some (.int .u8 (X : Int)) := by rw [← hX]; exact HC.out 1 x rfl
            have hm1 : 1 < m := by rw [← HM.out]; simp
            have hXb : ((X : Int) == 0) = false := by simp; omega
            have hKb : decide ((8 : Int) < (K : Int)) = false := by simp; omega
            clear hX
            go_wp2
            go_ret3
            refine ⟨?_, Chg.refl _ _⟩
            rw [HE.out]
            rfl
        · have hbe : beV 0 (t.take K) < 18446744073709551616 := beV_lt8 _ (by rw [List.length_take]; omega)
          have hlt : K ≤ t.length := by have := HM.out; rw [List.length_cons] at this; omega
          have HE : Hid (numV (numAt (k :: t)) = .tuple #[.int .u64 (beV 0 (t.take K) : Nat), .int .i64 ((K : Int) + 1), .int .i64 0]) := by
            show _ = _
            rw [numAt, if_neg hnz, if_neg (by rw [HM.out, HK.out]; exact hl), HK.out]
            rfl
          have hKb : decide ((8 : Int) < (K : Int)) = false := by simp; omega
          by_cases h0 : 0 < K
          · obtain ⟨x, t', rfl⟩ : ∃ x t', t = x :: t' := by cases t with
              | nil => simp at hlt; omega
              | cons x t' => exact ⟨x, t', rfl⟩
            obtain ⟨X, hX⟩ : ∃ X, x.toNat = X := ⟨_, rfl⟩
            have hX0 : 0 < X := by
              apply Nat.pos_of_ne_zero
              intro e
              refine hnz (.inr ⟨by rw [HK.out]; exact h0, ?_⟩)
              have : x = 0 := by apply UInt8.toNat.inj; rw [hX, e]; rfl
              rw [this]; rfl
            have hx1 : w.cell? ⟨b, o + 1, none⟩ = some (.int .u8 (X : Int)) := by rw [← hX]; exact HC.out 1 x rfl
            have hm1 : 1 < m := by rw [← HM.out]; simp
            have hXb : ((X : Int) == 0) = false := by simp; omega
            have HZ := Lib.hid hnz
            have HLT := Lib.hid hlt
            clear hX hnz hz hlt
            have hcc : ¬ c = 1 := by omega
            go_wp2
            go_loopw [6, 45] (fun v i wr => ∃ (j V : Nat), v = .int .u64 V ∧ i = .int .i64 j ∧ j ≤ K ∧ Hid (V = beV 0 ((x :: t').take j)) ∧ wr = w) (fun _ i _ => K - (intOf i).toNat)
            case atStart => exact ⟨0, 0, rfl, rfl, Nat.zero_le _, rfl, rfl⟩
            case round =>
              obtain ⟨j, V, rfl, rfl, hj, HV, rfl⟩ := hrel
              by_cases hlt : j < K
              · obtain ⟨y, hy⟩ : ∃ y, (x :: t')[j]? = some y := ⟨_, List.getElem?_eq_getElem (by have := HLT.out; omega)⟩
                have hVlt : V < 72057594037927936 := by
                  have h1 := beV_lt ((x :: t').take j)
                  rw [← HV.out] at h1
                  have h2 : (256 : Nat) ^ ((x :: t').take j).length ≤ 256 ^ 7 := Nat.pow_le_pow_right (by omega) (by rw [List.length_take]; omega)
                  have h3 : (256 : Nat) ^ 7 = 72057594037927936 := by decide
                  omega
                have hcy : wr.cell? ⟨b, o + 1 + j, none⟩ = some (.int .u8 (y.toNat : Int)) := by
                  have := HC.out (j + 1) y (by simpa using hy)
                  rw [show o + 1 + j = o + (j + 1) from by omega]
                  exact this
                have HN : Hid (V * 256 + y.toNat = beV 0 ((x :: t').take (j + 1))) := by show _ = _; rw [beV_take 0 _ j y hy, ← HV.out]
                have hy256 := y.toNat_lt
                obtain ⟨Y, hY⟩ : ∃ Y, y.toNat = Y := ⟨_, rfl⟩
                rw [hY] at hcy HN hy256
                clear hY hy
                have b1 : (0 : Int) ≤ (j : Int) := by omega
                have b2 : (j : Int) < (K : Int) := by omega
                go_wp2
                refine ⟨⟨j + 1, V * 256 + Y, ?_, by go_num, by omega, HN, trivial⟩, by simp [intOf]; omega⟩
                rw [or_byte V Y hVlt hy256]
              · obtain rfl : j = K := by omega
                go_wp2
                go_ret3
                refine ⟨?_, Chg.refl _ _⟩
                rw [HE.out, ← HV.out]
                rfl
          · obtain rfl : K = 0 := by omega
            clear hnz hz
            go_wp2
            all_goals
              go_loopw [6, 45] (fun v i wr => v = .int .u64 0 ∧ i = .int .i64 0 ∧ wr = w) (fun _ _ _ => 0)
              case atStart => exact ⟨rfl, rfl, rfl⟩
              case round =>
                obtain ⟨rfl, rfl, rfl⟩ := hrel
                go_wp2
                go_ret3
                refine ⟨?_, Chg.refl _ _⟩
                rw [HE.out]
                rfl
end Go.Proofs.Ytcibdcahcpcmaaa
