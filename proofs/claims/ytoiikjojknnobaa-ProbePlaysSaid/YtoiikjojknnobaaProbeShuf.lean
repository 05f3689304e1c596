/- A ring: what a call of shuffle leaves. -/
import Derived.Test.YtoiikjojknnobaaProbeNext
import Derived.Test.YtoiikjojknnobaaDrawPerm
namespace Go.Proofs.Ytoiikjojknnobaa
open Go.RowKit
set_option linter.unusedVariables false
set_option linter.unusedSimpArgs false
theorem pickL_snoc {row o : List Int} {j : Nat} {q : Nat} {y : Int} (ho : o[j]? = some (q : Int)) (hy : row[q]? = some y) : pickL row (o.take j) ++ [y] = pickL row (o.take (j + 1)) := by
  rw [List.take_add_one, ho]
  simp only [pickL, List.map_append, Option.toList, List.map_cons, List.map_nil, Int.toNat_natCast, List.getD_eq_getElem?_getD, hy, Option.getD_some]
theorem R_nocap {w : World} {base n c : Nat} {ok : Nat → Prop} {e : TypeId} {l : List Int} {A : Option Addr} (h : intK.R e w base ok (.slice A n c) l) : A = none → c = 0 := by
  rintro rfl
  obtain ⟨_, inner, ho, _⟩ := h
  rcases ho.2 with ⟨e, h0⟩ | ⟨g, cap, cur, e, _⟩
  · cases e; rfl
  · cases e
theorem pickL_length {row o : List Int} : (pickL row o).length = o.length := by simp [pickL]
set_option maxHeartbeats 1000000 in
theorem rg_shuffle {w : World} {okr okd : Nat → Prop} {g at_ k n : Nat} {row xs : List Int} {p : Option Addr} (h : IsRing w okr g row at_) (hD : IsD w okd p xs k) (hdis : ∀ b, okd b → ¬ okr b ∧ b ≠ g) (hn : row.length = n) (hn8 : n ≤ 8) :
    Calls Try.prog 29 #[.pointer (some ⟨g, 0, none⟩), .pointer p] w fun e w' => e = .returned (.tuple #[]) ∧ RgPost w okr okd g p xs (pickL row (drawOrd xs k n).1) 0 (drawOrd xs k n).2 w' := by
  have HI := Lib.hid h
  have HD := Lib.hid hD
  have HDIS := Lib.hid hdis
  have HN := Lib.hid hn
  have HO := Lib.hid (drawOrd_ordered xs hD.bd k n)
  obtain ⟨A, c, q0, q1, q2, q3, hc, hC, h0⟩ := h.read
  rw [hn] at q1
  clear hD hdis hn h hC h0 hc
  go_enter Try.func29, Try.ntmps29
  go_wp2_with fail
  refine (d_order HD.out (n : Int)).mono ?_
  intro e w2 hp
  obtain ⟨A2, c2, rfl, hl2, hC2, hd2, hc2⟩ := hp.list
  clear hp
  have hM : ordM (n : Int) = n := by unfold ordM; omega
  have hlen : (drawOrd xs k n).1.length = n := by rw [HO.out.len, hM]
  have hI2 := HI.out.chg hc2 (fun e => (HDIS.out _ e).2 rfl) (fun b hb e => (HDIS.out _ e).1 hb)
  have HMEM : Hid (∀ j, j < n → ∃ q : Nat, (drawOrd xs k n).1[j]? = some (q : Int) ∧ q < n) := by
    intro j hj
    have hj2 : j < (drawOrd xs k n).1.length := by rw [hlen]; exact hj
    obtain ⟨q, hq, hqn⟩ := HO.out.mem _ (List.getElem_mem hj2)
    exact ⟨q, by rw [List.getElem?_eq_getElem hj2, hq], by rw [hM] at hqn; exact hqn⟩
  obtain ⟨o, ho⟩ : ∃ o, (drawOrd xs k n).1 = o := ⟨_, rfl⟩
  obtain ⟨kv, hkv⟩ : ∃ kv, (drawOrd xs k n).2 = kv := ⟨_, rfl⟩
  rw [hlen]
  rw [ho] at hC2 HMEM hlen hl2
  rw [hkv] at hd2
  have HOO := Lib.hid ho
  have HKV := Lib.hid hkv
  have HD2 := Lib.hid hd2
  have HC2 := Lib.hid hc2
  have HI2 := Lib.hid hI2
  have HA2 := Lib.hid hC2
  have HL := Lib.hid hlen
  obtain ⟨A, c, q0, q1, q2, q3, hc, hC, h0⟩ := hI2.read
  rw [HN.out] at q1
  have HRC := Lib.hid hC
  have HR0 : Hid (intK.R 3 w2 w2.heap.size (fun b => some b = (Value.slice none 0 0).ownBlock) (.slice none 0 0) (pickL row (o.take 0))) := Kd.R_nil _ _ _ _ _
  have HC0 := Lib.hid (Chg.refl nob w2)
  clear hC2 hd2 hc2 hI2 hlen hC h0 hc HO ho hkv hM hl2
  go_wp2
  go_loopw [4, 15] (fun v i wr => ∃ (j : Nat) (V : Option Addr) (cv : Nat), j ≤ n ∧ v = .slice V j cv ∧ i = .int .i64 j ∧ Hid (intK.R 3 wr w2.heap.size (fun b => some b = (Value.slice V j cv).ownBlock) (.slice V j cv) (pickL row (o.take j))) ∧ Hid (Chg nob w2 wr)) (fun v i _ => n - (intOf i).toNat)
  case atStart => exact ⟨0, none, 0, Nat.zero_le _, rfl, rfl, HR0, HC0⟩
  case round =>
    obtain ⟨j, V, cv, hj, rfl, rfl, HR, HC⟩ := hrel
    clear HR0 HC0
    have HI3 := Lib.hid (HI2.out.new HC.out)
    obtain ⟨A3, c3, z0, z1, z2, z3, zc, zC, z4⟩ := HI3.out.read
    rw [HN.out] at z1
    by_cases hlt : j < n
    · have b1 : (j : Int) < (n : Int) := by omega
      have b3 : (0 : Int) ≤ (j : Int) := by omega
      obtain ⟨q, hq, hqn⟩ := HMEM.out j hlt
      obtain ⟨y, hy⟩ : ∃ y, row[q]? = some y := ⟨_, List.getElem?_eq_getElem (by rw [HN.out]; exact hqn)⟩
      obtain ⟨ad2, rfl, _, hcell2⟩ := at_scalar (Kd.C_new HA2.out HC.out) hq
      obtain ⟨ad3, rfl, _, hcell3⟩ := at_scalar zC hy
      have b4 : (q : Int) < (n : Int) := by omega
      have b5 : (0 : Int) ≤ (q : Int) := by omega
      have HSN := Lib.hid (pickL_snoc (row := row) hq hy)
      have HLT : Hid ((pickL row (o.take j)).length = j) := by show _ = _; rw [pickL_length, List.length_take, HL.out]; omega
      clear zC hq hy q0 q1 q2 q3
      go_wp2_with (at_builtin; refine wp_app1I rfl _ _ rfl w2.heap.size _ (.slice V j cv) (pickL row (o.take j)) y rfl rfl HR.out HC.out.size (j + 1) (by rw [HLT.out]) (by omega) ?_)
      intro A5 c5 w5 hR5 hC5 _
      rw [HSN.out] at hR5
      have HR5 := Lib.hid hR5
      have HC5 : Hid (Chg nob w2 w5) := HC.out.trans hC5 (fun i hi => .inr (Kd.R_own HR.out i hi.symm).1)
      clear hR5 hC5
      go_wp2
      exact ⟨⟨j + 1, A5, c5, by omega, rfl, by go_num, HR5, HC5⟩, by simp [intOf]; omega⟩
    · obtain rfl : j = n := by omega
      have b1 : ¬ (j : Int) < (j : Int) := by omega
      have HFULL : Hid (o.take j = o) := List.take_of_length_le (by rw [HL.out]; exact Nat.le_refl _)
      have hR := HR.out
      rw [HFULL.out] at hR
      obtain ⟨k1, k2, k3⟩ := Kd.R_read (Kd.R_ge Kd.scalar_flat hR)
      have hcs := HC2.out.size
      have hcs2 := HC.out.size
      have hgw := HI.out.lt
      have hV : V = none → cv = 0 := R_nocap hR
      have hring := (HI3.out.setRow (A' := V) (c' := cv) (n := j) (ok' := fun b => (okr b ∨ w.heap.size ≤ b) ∧ b < wr.heap.size) (Kd.C_mono (Kd.C_bound k1) (fun b hb => ⟨.inr (by omega), hb.2⟩)) k2 k3 hV (fun e => by rcases e.1 with h1 | h1; exact HI3.out.1 h1; omega)).setAt 0
      have hch : Chg (fun b => b = g) wr ((wr.setCell ⟨g, 1, none⟩ (.slice V j cv)).setCell ⟨g, 2, none⟩ (.int .i64 ((0 : Nat) : Int))) := ((Chg.refl (fun b => b = g) wr).setCell (p := ⟨g, 1, none⟩) (.inl rfl) _).setCell (p := ⟨g, 2, none⟩) (.inl rfl) _
      have hpost : RgPost w okr okd g p xs (pickL row o) 0 kv ((wr.setCell ⟨g, 1, none⟩ (.slice V j cv)).setCell ⟨g, 2, none⟩ (.int .i64 ((0 : Nat) : Int))) := by
        refine ⟨?_, (HD2.out.new HC.out).chg hch (fun b hb e => (HDIS.out b hb).2 e), (((HC2.out.mono (fun i hi => .inl (.inr hi))).thenNew HC.out).trans hch (fun b hb => .inl (.inl hb)))⟩
        rw [show ((wr.setCell ⟨g, 1, none⟩ (.slice V j cv)).setCell ⟨g, 2, none⟩ (.int .i64 ((0 : Nat) : Int))).heap.size = wr.heap.size from by simp [World.setCell]]
        exact hring
      have HP := Lib.hid hpost
      clear hR k1 k2 k3 hV hring hch hpost zC q0 q1 q2 q3
      go_wp2
      go_returns
      rw [HOO.out, HKV.out]
      exact ⟨rfl, HP.out⟩
end Go.Proofs.Ytoiikjojknnobaa
