/- A ring, the reference's ring, and their draws: what each call leaves of all of them. -/
import Derived.Test.YtoiikjojknnobaaProbeRfNext
import Derived.Test.YtoiikjojknnobaaProbeOthers
import Derived.Test.YtoiikjojknnobaaProbeRow
namespace Go.Proofs.Ytoiikjojknnobaa
open Go.RowKit
set_option linter.unusedVariables false
set_option linter.unusedSimpArgs false
/-- The reference's ring and draws; own: their blocks. -/
def QSt (W : World) (own : Nat → Prop) (g gd : Nat) (xs : List Int) (s : List Int × Nat) (k : Nat) (w : World) : Prop :=
  ∃ okr, IsRR w okr g s.1 s.2 ∧ IsRef w (fun b => b < W.heap.size) gd xs k ∧ gd ≠ g ∧ ¬ okr gd ∧ (∀ b, okr b ∨ b = g ∨ b = gd → own b) ∧ (∀ b, own b → W.heap.size ≤ b ∧ b < w.heap.size) ∧ GoodR s
/-- All that the law makes: the ring and its draws, the reference's, and a block sb beside them. -/
def Pl (W : World) (g : Nat) (p : Option Addr) (g2 gd2 : Nat) (xs : List Int) (sb : Nat) (ob : Obj) (s : List Int × Nat) (k : Nat) (s2 : List Int × Nat) (k2 : Nat) (w : World) : Prop :=
  ∃ own own2, PSt W own g p xs s k w ∧ QSt W own2 g2 gd2 xs s2 k2 w ∧ (∀ b, own b → ¬ own2 b) ∧ w.heap[sb]? = some ob ∧ ¬ own sb ∧ ¬ own2 sb
section
variable {W w w' : World} {own : Nat → Prop} {g gd k k2 g2 gd2 sb : Nat} {p : Option Addr} {xs : List Int} {s s2 : List Int × Nat} {ob : Obj}
theorem QSt.lt (h : QSt W own g gd xs s k w) (b : Nat) (hb : own b) : W.heap.size ≤ b ∧ b < w.heap.size := by
  obtain ⟨okr, h1, h2, h3, h4, h5, h6, h7⟩ := h
  exact h6 b hb
theorem QSt.chg (h : QSt W own g gd xs s k w) {S : Nat → Prop} (hc : Chg S w w') (hs : ∀ b, S b → ¬ own b ∧ W.heap.size ≤ b) : QSt W own g gd xs s k w' := by
  obtain ⟨okr, h1, h2, h3, h4, h5, h6, h7⟩ := h
  exact ⟨okr, h1.chg hc (fun e => (hs _ e).1 (h5 _ (.inr (.inl rfl)))) (fun b hb e => (hs _ e).1 (h5 _ (.inl hb))), h2.chg hc (fun e => (hs _ e).1 (h5 _ (.inr (.inr rfl)))) (fun b hb e => by have := (hs _ e).2; omega), h3, h4, h5, fun b hb => ⟨(h6 b hb).1, Nat.lt_of_lt_of_le (h6 b hb).2 hc.size⟩, h7⟩
theorem QSt.post {okr : Nat → Prop} {s' : List Int × Nat} {k' : Nat} (h2 : gd ≠ g) (hgd : gd < w.heap.size) (h4 : ¬ okr gd) (h5 : ∀ b, okr b ∨ b = g ∨ b = gd → own b) (h6 : ∀ b, own b → W.heap.size ≤ b ∧ b < w.heap.size) (hW : W.heap.size ≤ w.heap.size) (hp : RfPost w okr (fun b => b < W.heap.size) g gd xs s'.1 s'.2 k' w') (hg : GoodR s') :
    Chg own w w' ∧ QSt W (fun b => own b ∨ (w.heap.size ≤ b ∧ b < w'.heap.size)) g gd xs s' k' w' := by
  obtain ⟨a1, a2, a3⟩ := hp
  have hc : Chg own w w' := a3.mono (fun b hb => .inl (h5 b (by rcases hb with hb | hb; exact .inr (.inl hb); exact .inr (.inr hb))))
  have hs := hc.size
  refine ⟨hc, _, a1, a2, h2, fun e => ?_, fun b hb => ?_, fun b hb => ?_, hg⟩
  · rcases e.1 with h | h
    · exact h4 h
    · omega
  · rcases hb with hb | hb | hb
    · rcases hb.1 with h | h
      · exact .inl (h5 b (.inl h))
      · exact .inr ⟨h, hb.2⟩
    · exact .inl (h5 b (.inr (.inl hb)))
    · exact .inl (h5 b (.inr (.inr hb)))
  · rcases hb with h | h
    · exact ⟨(h6 b h).1, by have := (h6 b h).2; omega⟩
    · exact ⟨by omega, h.2⟩
theorem Pl.chg (h : Pl W g p g2 gd2 xs sb ob s k s2 k2 w) : Chg nob W w := by
  obtain ⟨own, own2, ⟨_, _, _, _, _, _, _, h, _⟩, _⟩ := h
  exact h
theorem Pl.good (h : Pl W g p g2 gd2 xs sb ob s k s2 k2 w) : GoodR s ∧ GoodR s2 := by
  obtain ⟨own, own2, ⟨_, _, _, _, _, _, _, _, h⟩, ⟨_, _, _, _, _, _, _, h2⟩, _⟩ := h
  exact ⟨h, h2⟩
theorem Pl.new (h : Pl W g p g2 gd2 xs sb ob s k s2 k2 w) (hc : Chg nob w w') : Pl W g p g2 gd2 xs sb ob s k s2 k2 w' := by
  obtain ⟨own, own2, h1, h2, h3, h4, h5, h6⟩ := h
  exact ⟨own, own2, h1.new hc, h2.chg hc (fun b hb => (not_nob b hb).elim), h3, hc.heap h4 (not_nob _), h5, h6⟩
theorem Pl.box (h : Pl W g p g2 gd2 xs sb ob s k s2 k2 w) (ob' : Obj) : Pl W g p g2 gd2 xs w.heap.size ob' s k s2 k2 (w.alloc ob') := by
  obtain ⟨own, own2, h1, h2, h3, h4, h5, h6⟩ := h.new ((Chg.refl nob w).alloc ob')
  obtain ⟨own, own2, h1, h2, h3, h4, h5, h6⟩ := h
  have hc := (Chg.refl nob w).alloc ob'
  exact ⟨own, own2, h1.new hc, h2.chg hc (fun b hb => (not_nob b hb).elim), h3, heap_alloc_new w ob', fun e => by have := (h1.lt _ e).2; omega, fun e => by have := (h2.lt _ e).2; omega⟩
theorem Pl.first {own' : Nat → Prop} {s' : List Int × Nat} {k' : Nat} {own own2 : Nat → Prop} (h2 : QSt W own2 g2 gd2 xs s2 k2 w) (h3 : ∀ b, own b → ¬ own2 b) (h4 : w.heap[sb]? = some ob) (h5 : ¬ own sb) (h6 : ¬ own2 sb) (hc : Chg own w w') (hs : PSt W own' g p xs s' k' w') (ho : ∀ b, own' b → own b ∨ w.heap.size ≤ b) (hW : ∀ b, own b → W.heap.size ≤ b) : Pl W g p g2 gd2 xs sb ob s' k' s2 k2 w' := by
  have hsb := heap_lt h4
  refine ⟨own', own2, hs, h2.chg hc (fun b hb => ⟨h3 b hb, hW b hb⟩), fun b hb => ?_, hc.heap h4 h5, fun e => ?_, h6⟩
  · rcases ho b hb with h | h
    · exact h3 b h
    · exact fun e => by have := (h2.lt b e).2; omega
  · rcases ho sb e with h | h
    · exact h5 h
    · omega
theorem Pl.post (h : Pl W g p g2 gd2 xs sb ob s k s2 k2 w) {s' : List Int × Nat} {k' : Nat} (hp : ∀ own, PSt W own g p xs s k w → PPost W own g p xs s' k' w w') : Pl W g p g2 gd2 xs sb ob s' k' s2 k2 w' := by
  obtain ⟨own, own2, h1, h2, h3, h4, h5, h6⟩ := h
  obtain ⟨hc, own', hs, ho⟩ := hp own h1
  exact Pl.first h2 h3 h4 h5 h6 hc hs ho (fun b hb => (h1.lt b hb).1)
theorem Pl.second {own own2 : Nat → Prop} {s' : List Int × Nat} {k' : Nat} (h1 : PSt W own g p xs s k w) (h3 : ∀ b, own b → ¬ own2 b) (h4 : w.heap[sb]? = some ob) (h5 : ¬ own sb) (h6 : ¬ own2 sb) (hW : ∀ b, own2 b → W.heap.size ≤ b) (hc : Chg own2 w w') (hq : QSt W (fun b => own2 b ∨ (w.heap.size ≤ b ∧ b < w'.heap.size)) g2 gd2 xs s' k' w') : Pl W g p g2 gd2 xs sb ob s k s' k' w' := by
  have hsb := heap_lt h4
  refine ⟨own, _, h1.chg hc (fun b hb => ⟨fun e => h3 b e hb, hW b hb⟩), hq, fun b hb e => ?_, hc.heap h4 h6, h5, fun e => ?_⟩
  · rcases e with e | e
    · exact h3 b hb e
    · have := (h1.lt b hb).2
      omega
  · rcases e with e | e
    · exact h6 e
    · omega
theorem pl_add (h : Pl W g p g2 gd2 xs sb ob s k s2 k2 w) (node : Int) :
    Calls Try.prog 10 #[.pointer (some ⟨g, 0, none⟩), .int .i64 node, .pointer p] w fun e w' => e = .returned (.bool (addF xs k s node).1) ∧ Pl W g p g2 gd2 xs sb ob (addF xs k s node).2.1 (addF xs k s node).2.2 s2 k2 w' := by
  obtain ⟨own, own2, h1, h2, h3, h4, h5, h6⟩ := h
  refine (p_add h1 node).mono ?_
  rintro e w' ⟨rfl, hc, own', hs, ho⟩
  exact ⟨rfl, Pl.first h2 h3 h4 h5 h6 hc hs ho (fun b hb => (h1.lt b hb).1)⟩
theorem pl_remove (h : Pl W g p g2 gd2 xs sb ob s k s2 k2 w) (node : Int) :
    Calls Try.prog 18 #[.pointer (some ⟨g, 0, none⟩), .int .i64 node] w fun e w' => e = .returned (.bool (remF s node).1) ∧ Pl W g p g2 gd2 xs sb ob (remF s node).2 k s2 k2 w' := by
  obtain ⟨own, own2, h1, h2, h3, h4, h5, h6⟩ := h
  refine (p_remove h1 node).mono ?_
  rintro e w' ⟨rfl, hc, own', hs, ho⟩
  exact ⟨rfl, Pl.first h2 h3 h4 h5 h6 hc hs ho (fun b hb => (h1.lt b hb).1)⟩
theorem pl_next (h : Pl W g p g2 gd2 xs sb ob s k s2 k2 w) {L : Option Addr} {ln lc : Nat} {live : List Int} (hL : intK.C W (fun b => b < W.heap.size) L live) (hln : live.length = ln) :
    Calls Try.prog 11 #[.pointer (some ⟨g, 0, none⟩), .slice L ln lc, .pointer p] w fun e w' => e = .returned (.tuple #[.int .i64 (nextF xs k s live).1.1, .bool (nextF xs k s live).1.2]) ∧ Pl W g p g2 gd2 xs sb ob (nextF xs k s live).2.1 (nextF xs k s live).2.2 s2 k2 w' := by
  have hW := h.chg
  obtain ⟨own, own2, h1, h2, h3, h4, h5, h6⟩ := h
  refine (p_next h1 (Kd.C_new hL hW) hln (fun b hb e => by have := (h1.lt b e).1; omega)).mono ?_
  rintro e w' ⟨rfl, hc, own', hs, ho⟩
  exact ⟨rfl, Pl.first h2 h3 h4 h5 h6 hc hs ho (fun b hb => (h1.lt b hb).1)⟩
/-- A list that a call has told. -/
def ToldP (w : World) (gd2 : Nat) (A : Option Addr) (l : List Int) : Prop := intK.C w (fun b => b ≠ gd2 ∧ b < w.heap.size) A l
theorem pl_others (h : Pl W g p g2 gd2 xs sb ob s k s2 k2 w) {L : Option Addr} {ln lc : Nat} {live : List Int} (hL : intK.C W (fun b => b < W.heap.size) L live) (hln : live.length = ln) (h64 : ln ≤ 64) (but many : Int) :
    Calls Try.prog 15 #[.pointer (some ⟨g, 0, none⟩), .slice L ln lc, .int .i64 but, .int .i64 many, .pointer p] w fun e w' => ∃ A c, e = .returned (.slice A (othersF xs k live but many).1.length c) ∧ Pl W g p g2 gd2 xs sb ob s (othersF xs k live but many).2 s2 k2 w' ∧ ToldP w' gd2 A (othersF xs k live but many).1 := by
  have hW := h.chg
  obtain ⟨own, own2, h1, h2, h3, h4, h5, h6⟩ := h
  have hgd : gd2 < w.heap.size := by obtain ⟨_, _, a, _⟩ := h2; exact a.lt
  refine (p_others h1 (Kd.C_new hL hW) hln h64 (fun b hb e => by have := (h1.lt b e).1; omega) but many).mono ?_
  rintro e w' ⟨A, c, rfl, _, hC, hs, hc⟩
  exact ⟨A, c, rfl, Pl.first h2 h3 h4 h5 h6 hc hs (fun b hb => .inl hb) (fun b hb => (h1.lt b hb).1), Kd.C_mono (Kd.C_bound hC) (fun b hb => ⟨by have := hb.1; omega, hb.2⟩)⟩
theorem pl_radd (h : Pl W g p g2 gd2 xs sb ob s k s2 k2 w) (node : Int) :
    Calls Try.prog 17 #[.pointer (some ⟨g2, 0, none⟩), .int .i64 node, .pointer (some ⟨gd2, 0, none⟩)] w fun e w' => e = .returned (.bool (addF xs k2 s2 node).1) ∧ Pl W g p g2 gd2 xs sb ob s k (addF xs k2 s2 node).2.1 (addF xs k2 s2 node).2.2 w' := by
  have hW := h.chg.size
  obtain ⟨own, own2, h1, h2, h3, h4, h5, h6⟩ := h
  obtain ⟨okr, a1, a2, a3, a4, a5, a6, a7⟩ := h2
  refine (rf_add a1 a2 a3 a4 (fun e => by have := (a6 _ (a5 _ (.inr (.inl rfl)))).1; omega) a7.len (Nat.le_trans a7.at_ a7.len) node).mono ?_
  rintro e w' ⟨rfl, hp⟩
  obtain ⟨hc, hq⟩ := QSt.post (s' := (addF xs k2 s2 node).2.1) (k' := (addF xs k2 s2 node).2.2) a3 a2.lt a4 a5 a6 hW hp (good_add a2.bd a7 node)
  exact ⟨rfl, Pl.second h1 h3 h4 h5 h6 (fun b hb => (a6 b hb).1) hc hq⟩
theorem pl_rremove (h : Pl W g p g2 gd2 xs sb ob s k s2 k2 w) (node : Int) :
    Calls Try.prog 19 #[.pointer (some ⟨g2, 0, none⟩), .int .i64 node] w fun e w' => e = .returned (.bool (remF s2 node).1) ∧ Pl W g p g2 gd2 xs sb ob s k (remF s2 node).2 k2 w' := by
  have hW := h.chg.size
  obtain ⟨own, own2, h1, h2, h3, h4, h5, h6⟩ := h
  obtain ⟨okr, a1, a2, a3, a4, a5, a6, a7⟩ := h2
  refine (rf_remove a1 a2 a3 (fun e => by have := (a6 _ (a5 _ (.inr (.inl rfl)))).1; omega) a7.nd a7.len (Nat.le_trans a7.at_ a7.len) node).mono ?_
  rintro e w' ⟨rfl, hp⟩
  obtain ⟨hc, hq⟩ := QSt.post (s' := (remF s2 node).2) (k' := k2) a3 a2.lt a4 a5 a6 hW hp (good_rem a7 node)
  exact ⟨rfl, Pl.second h1 h3 h4 h5 h6 (fun b hb => (a6 b hb).1) hc hq⟩
theorem pl_rnext (h : Pl W g p g2 gd2 xs sb ob s k s2 k2 w) {L : Option Addr} {ln lc : Nat} {live : List Int} (hL : intK.C W (fun b => b < W.heap.size) L live) (hln : live.length = ln) :
    Calls Try.prog 20 #[.pointer (some ⟨g2, 0, none⟩), .slice L ln lc, .pointer (some ⟨gd2, 0, none⟩)] w fun e w' => e = .returned (.tuple #[.int .i64 (nextF xs k2 s2 live).1.1, .bool (nextF xs k2 s2 live).1.2]) ∧ Pl W g p g2 gd2 xs sb ob s k (nextF xs k2 s2 live).2.1 (nextF xs k2 s2 live).2.2 w' := by
  have hWc := h.chg
  have hW := h.chg.size
  obtain ⟨own, own2, h1, h2, h3, h4, h5, h6⟩ := h
  obtain ⟨okr, a1, a2, a3, a4, a5, a6, a7⟩ := h2
  have hg2 := (a6 _ (a5 _ (.inr (.inl rfl)))).1
  have hgd2 := (a6 _ (a5 _ (.inr (.inr rfl)))).1
  refine (rf_next a1 a2 a3 a4 (fun e => by omega) (fun b hb => by omega) rfl a7.len a7.at_ (Kd.C_new hL hWc) hln (fun b hb => by constructor <;> omega)).mono ?_
  rintro e w' ⟨rfl, hp⟩
  obtain ⟨hc, hq⟩ := QSt.post (s' := (nextF xs k2 s2 live).2.1) (k' := (nextF xs k2 s2 live).2.2) a3 a2.lt a4 a5 a6 hW hp (good_next a2.bd a7 live)
  exact ⟨rfl, Pl.second h1 h3 h4 h5 h6 (fun b hb => (a6 b hb).1) hc hq⟩
theorem pl_rothers (h : Pl W g p g2 gd2 xs sb ob s k s2 k2 w) {L : Option Addr} {ln lc : Nat} {live : List Int} (hL : intK.C W (fun b => b < W.heap.size) L live) (hln : live.length = ln) (h64 : ln ≤ 64) (but many : Int) {A0 : Option Addr} {l0 : List Int} (h0 : ToldP w gd2 A0 l0) :
    Calls Try.prog 22 #[.slice L ln lc, .int .i64 but, .int .i64 many, .pointer (some ⟨gd2, 0, none⟩)] w fun e w' => ∃ A c, e = .returned (.slice A (othersF xs k2 live but many).1.length c) ∧ Pl W g p g2 gd2 xs sb ob s k s2 (othersF xs k2 live but many).2 w' ∧ ToldP w' gd2 A0 l0 ∧ ToldP w' gd2 A (othersF xs k2 live but many).1 := by
  have hWc := h.chg
  have hW := h.chg.size
  obtain ⟨own, own2, h1, h2, h3, h4, h5, h6⟩ := h
  obtain ⟨okr, a1, a2, a3, a4, a5, a6, a7⟩ := h2
  have hgd2 := (a6 _ (a5 _ (.inr (.inr rfl)))).1
  refine (rf_others a2 (Kd.C_new hL hWc) hln h64 (fun b hb => by omega) (fun b hb => by omega) but many).mono ?_
  rintro e w' ⟨A, c, rfl, hl, hC, hd, hc⟩
  have hs := hc.size
  have hc2 : Chg own2 w w' := hc.mono (fun b hb => .inl (a5 b (.inr (.inr hb))))
  refine ⟨A, c, rfl, Pl.second h1 h3 h4 h5 h6 (fun b hb => (a6 b hb).1) hc2 ⟨okr, a1.chg hc (fun e => a3 e.symm) (fun b hb e => a4 (by rw [← show b = gd2 from e]; exact hb)), hd, a3, a4, fun b hb => .inl (a5 b hb), fun b hb => ?_, a7⟩, Kd.C_mono (Kd.C_chg h0 hc (fun b hb e => hb.1 e)) (fun b hb => ⟨hb.1, by omega⟩), Kd.C_mono (Kd.C_bound hC) (fun b hb => ⟨by have := a2.lt; have := hb.1; omega, hb.2⟩)⟩
  rcases hb with h | h
  · exact ⟨(a6 b h).1, by have := (a6 b h).2; omega⟩
  · exact ⟨by omega, h.2⟩
theorem pl_same (h : Pl W g p g2 gd2 xs sb ob s k s2 k2 w) {A B : Option Addr} {l : List Int} {c d : Nat} (hA : ToldP w gd2 A l) (hB : ToldP w gd2 B l) :
    Calls Try.prog 21 #[.slice A l.length c, .slice B l.length d] w fun e w' => e = .returned (.bool true) ∧ Pl W g p g2 gd2 xs sb ob s k s2 k2 w' :=
  (same_true rfl hA hB).mono fun e w' ⟨he, hc⟩ => ⟨he, h.new hc⟩
theorem pl_list (h : Pl W g p g2 gd2 xs sb ob s k s2 k2 w) :
    Calls Try.prog 13 #[.pointer (some ⟨g, 0, none⟩)] w (Cloned w s.1) := by
  obtain ⟨own, own2, ⟨okr, okd, h1, h2, h3, h4, h5, h6, h7⟩, _⟩ := h
  exact rg_list h1 (by have := h7.len; omega)
theorem pl_at (h : Pl W g p g2 gd2 xs sb ob s k s2 k2 w) :
    Calls Try.prog 23 #[.pointer (some ⟨g, 0, none⟩)] w fun e w' => e = .returned (.int .i64 s.2) ∧ w' = w := by
  obtain ⟨own, own2, ⟨okr, okd, h1, h2, h3, h4, h5, h6, h7⟩, _⟩ := h
  exact rg_at h1
theorem pl_taken {gd : Nat} (h : Pl W g (some ⟨gd, 0, none⟩) g2 gd2 xs sb ob s k s2 k2 w) :
    Calls Try.prog 24 #[.pointer (some ⟨gd, 0, none⟩)] w fun e w' => e = .returned (.int .i64 k) ∧ w = w' := by
  obtain ⟨own, own2, ⟨okr, okd, h1, h2, h3, h4, h5, h6, h7⟩, _⟩ := h
  rcases h2 with ⟨g', e, hd⟩ | ⟨e, _⟩
  · cases e
    exact draw_taken hd
  · cases e
/-- What the law reads of the reference's ring and draws. -/
theorem pl_read (h : Pl W g p g2 gd2 xs sb ob s k s2 k2 w) : ∃ A c, w.heap[g2]? = some (.cells #[.slice A s2.1.length c, .int .i64 s2.2] 44 (0, 0)) ∧ (∃ B d, w.heap[gd2]? = some (.cells #[.slice B xs.length d, .int .i64 k2] 56 (0, 0))) ∧ ToldP w gd2 A s2.1 := by
  obtain ⟨own, own2, h1, ⟨okr, ⟨_, A, c, b1, b2⟩, ⟨_, B, d, e1, _⟩, a3, a4, a5, a6, a7⟩, _⟩ := h
  exact ⟨A, c, b1, ⟨B, d, e1⟩, Kd.C_mono (Kd.C_bound b2) (fun b hb => ⟨fun e => a4 (e ▸ hb.1), hb.2⟩)⟩
end
/-- What of the steps is read: kind, node, how many; the live ones. -/
theorem stp_at {w : World} {ok : Nat → Prop} {A : Option Addr} {l : List Stp} (h : stpW.C w ok A l) {j : Nat} {x : Stp} (hx : l[j]? = some x) :
    ∃ b o L d, A = some ⟨b, o, none⟩ ∧ w.cell? ⟨b, o + j * 4, none⟩ = some (.int .i64 x.1) ∧ w.cell? ⟨b, o + j * 4 + 1, none⟩ = some (.int .i64 x.2.1) ∧ w.cell? ⟨b, o + j * 4 + 2, none⟩ = some (.int .i64 x.2.2.1) ∧ w.cell? ⟨b, o + j * 4 + 3, none⟩ = some (.slice L x.2.2.2.length d) ∧ intK.C w ok L x.2.2.2 ∧ x.2.2.2.length ≤ d := by
  obtain ⟨b, o, c, e, _, hk, hc⟩ := Kd.C_at' h hx
  obtain ⟨L, d, rfl, hC, hl⟩ := stp_arg hk
  exact ⟨b, o, L, d, e, hc 0 _ rfl, hc 1 _ rfl, hc 2 _ rfl, hc 3 _ rfl, hC, hl⟩
end Go.Proofs.Ytoiikjojknnobaa
