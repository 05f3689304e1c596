import Derived.Test.YtcibdcahcpcmaaaFold01
import Derived.RangeFuncNested
import Derived.RangeFuncBound
import Derived.RangeFuncCalls
import Derived.RangeFuncLeaves
/- A range over a function, with what is known of memory behind the values that the iterator hands over: the iterator's contract counts its calls of yield; the caller's invariants are closed under new memory. -/
namespace Go.Proofs.Ytcibdcahcpcmaaa
open Go.RowKit
set_option linter.unusedVariables false
/-- X: the world between two rounds, A: the world in which yield is called. The k-th call of yield hands over args of which M speaks; N calls are made, or fewer where a round has said 'no more'. -/
def Iter (P : Program) (gf : Nat) (lb : Array Value) (KI : World → Prop) (M : Nat → Nat → Array Value → World → Prop) (N : Nat) : Prop :=
  ∀ (l : Nat) (J Jx : Nat → World → Prop) (W : World), l < W.heap.size → (∀ k A B, J k A → Chg nob A B → J k B) → (∀ k A B, Jx k A → Chg nob A B → Jx k B) → (∀ k A, J k A → W.heap.size ≤ A.heap.size ∧ KI A) →
    (∀ k args X A, k < N → J k X → Chg nob X A → M X.heap.size k args A → YieldAt Fence.wide 0 P l args A fun e B => (e = .returned (.bool true) ∧ J (k + 1) B) ∨ (e = .returned (.bool false) ∧ Jx (k + 1) B)) →
    J 0 W → Calls P gf (#[.func (.yield l) #[] #[]] ++ lb) W fun e B => (∃ v, e = .returned v) ∧ (J N B ∨ ∃ k, k < N ∧ Jx (k + 1) B)
/-- The two blocks of the loop's own: the rounds' deferred calls, the record. -/
def bookB (D b : Nat) : Prop := b = D ∨ b = D + 1
/-- They lie as they lay. -/
def HoldB (D : Nat) (A B : World) : Prop := ∀ b, bookB D b → B.heap[b]? = A.heap[b]?
theorem HoldB.chg {D : Nat} {S : Nat → Prop} {A B : World} (h : Chg S A B) (hD : D + 1 < A.heap.size) (hS : ∀ b, S b → ¬ bookB D b) : HoldB D A B :=
  fun b hb => h.block b (by rcases hb with rfl | rfl <;> omega) (fun hs => hS b hs hb)
/-- How a round may be left. -/
def roundQ (D : Nat) (I : Nat → World → Prop) (Ix : Code → Nat → World → Prop) (k : Nat) (A : World) : Exit → Act → World → Prop
  | .normal, _, B => HoldB D A B ∧ I (k + 1) B
  | .ret, _, B => HoldB D A B ∧ Ix .ret (k + 1) B
  | .exit id, _, B => HoldB D A B ∧ Ix (.exit id) (k + 1) B
  | .goto t, _, B => HoldB D A B ∧ Ix (.goto t) (k + 1) B
  | .panic _, _, _ => False
  | .outgrown, _, _ => False
theorem chg_putObj (W : World) (l : Nat) (o : Obj) : Chg (fun b => b = l) W (W.putObj l o) :=
  ⟨rfl, rfl, rfl, by simp, fun b _ hb => World.putObj_heap_other hb⟩
theorem chg_books {D : Nat} {A B : World} (l : Nat) (hl : bookB D l) (h : Chg (fun b => b = l) A B) : Chg (bookB D) A B := h.mono (fun b hb => .inl (by rw [hb]; exact hl))
set_option maxHeartbeats 1000000 in
/-- The statement. -/
theorem wp_range {P : Program} {g : Operand} {ps : Array Tmp} {assign body : Code} {Q : Exit → Act → World → Prop} {a : Act} {w : World} {gf : Nat} {lb : Array Value} {KI : World → Prop} {M : Nat → Nat → Array Value → World → Prop} {N : Nat}
    (hg : a.eval g = .func (.func gf) #[] lb) (eg : ∀ args w, (callFunc gf args).run P w = .ok (.enter gf args) w) (hit : Iter P gf lb KI M N) (hps : ∀ B k args W, M B k args W → args.size = ps.size)
    (I : Nat → World → Prop) (Ix : Code → Nat → World → Prop) (hI : ∀ k A B, I k A → Chg (bookB w.heap.size) A B → I k B) (hIx : ∀ c k A B, Ix c k A → Chg (bookB w.heap.size) A B → Ix c k B)
    (hKI : ∀ k A, I k A → KI A) (h0 : ∀ B, Chg nob w B → B.heap.size = w.heap.size + 2 → I 0 B)
    (hround : ∀ k args X A, k < N → I k X → w.heap.size + 2 ≤ X.heap.size → Chg nob X A → I k A → M X.heap.size k args A →
      assign.wpIn (Fence.wide.inRound (w.heap.size + 1)) 0 P (Exit.then (fun a₁ A₁ => HoldB w.heap.size A A₁ ∧ ∀ B, Chg (bookB w.heap.size) A₁ B → B.heap.size = A₁.heap.size →
        body.wpIn (Fence.wide.inRound (w.heap.size + 1)) 0 P (roundQ w.heap.size I Ix k B) a₁ B) (fun _ _ _ => False)) { tmps := (ps.zip args).foldl (fun t (p, v) => t.setIfInBounds p v) a.tmps, defers := [] } A)
    (hdone : ∀ A, I N A → A.heap[w.heap.size]? = some (.deferred (some [])) → Q .normal { a with defers := { target := .collected w.heap.size, args := #[] } :: a.defers } A)
    (hstop : ∀ c k A, k < N → Ix c (k + 1) A → A.heap[w.heap.size]? = some (.deferred (some [])) → c.wp P Q { a with defers := { target := .collected w.heap.size, args := #[] } :: a.defers } A) :
    (Code.rangeFunc g ps assign body).wp P Q a w := by
  refine wpIn_wide (n := 0).1 (wpIn_rangeFunc ?_)
  intro fn _
  show ∃ l, _
  let rec_ : LoopState → Option Code → Loop := fun st pe => { state := st, pending := pe, fn, tmps := a.tmps, params := ps, assign, body, defers := w.heap.size }
  obtain ⟨rc, hrc⟩ : ∃ rc : LoopState → Option Code → Loop, rc = rec_ := ⟨_, rfl⟩
  obtain ⟨D, hD⟩ : ∃ D, w.heap.size = D := ⟨_, rfl⟩
  obtain ⟨W1, hW1⟩ : ∃ W1, (w.alloc (.deferred (some []))).alloc (.loop (rc .ready none)) = W1 := ⟨_, rfl⟩
  have hc1 : Chg nob w W1 := by rw [← hW1]; exact ((Chg.refl nob w).alloc _).alloc _
  have hs1 : W1.heap.size = D + 2 := by rw [← hW1, ← hD]; simp
  have hl1 : W1.heap[D + 1]? = some (.loop (rc .ready none)) := by
    rw [← hW1, ← hD]
    have := World.alloc_heap_new (w.alloc (.deferred (some []))) (.loop (rc .ready none))
    rwa [World.size_alloc] at this
  have hd1 : W1.heap[D]? = some (.deferred (some [])) := by
    rw [← hW1, ← hD]
    exact (Below.heap_alloc _ _ _ (by simp)).trans (World.alloc_heap_new w _)
  have hfirst := h0 W1 hc1 (by rw [hs1, hD])
  rw [hD] at hI hIx hround hdone hstop
  refine ⟨D + 1, [{ target := .collected D, args := #[] }], W1, { target := .fn (.func gf) lb, args := #[.func (.yield (D + 1)) #[] #[]] }, W1, gf, #[.func (.yield (D + 1)) #[] #[]] ++ lb, W1, ?_, ?_, fun _ _ => trivial, ?_, fun h => by simp [Fence.wide] at h, ?_⟩
  · rw [← hW1, ← hD, hrc]
    exact run_enterLoop_outer _ _ _ _ _
  · simp only [resolve, hg]
    simp [go_sem]
  · simp [invoke, go_sem, eg]
  have books : ∀ {A : World} {st : LoopState} {pe : Option Code}, A.heap[D + 1]? = some (.loop (rc st pe)) → D + 1 < A.heap.size := fun h => (Array.getElem?_eq_some_iff.1 h).1
  refine callsIn_wide.2 ((hit (D + 1) (fun k A => I k A ∧ D + 2 ≤ A.heap.size ∧ A.heap[D + 1]? = some (.loop (rc .ready none)) ∧ A.heap[D]? = some (.deferred (some [])))
    (fun k A => ∃ c, Ix c k A ∧ A.heap[D + 1]? = some (.loop (rc .done (some c))) ∧ A.heap[D]? = some (.deferred (some []))) W1 (by omega) ?_ ?_ ?_ ?_ ⟨hfirst, by omega, hl1, hd1⟩).mono ?_)
  · rintro k A B ⟨hi, hs, hl, hd⟩ hc
    exact ⟨hI k A B hi hc.ofNew, Nat.le_trans hs hc.size, hc.heap hl (not_nob _), hc.heap hd (not_nob _)⟩
  · rintro k A B ⟨c, hi, hl, hd⟩ hc
    exact ⟨c, hIx c k A B hi hc.ofNew, hc.heap hl (not_nob _), hc.heap hd (not_nob _)⟩
  · rintro k A ⟨hi, hs, _, _⟩
    exact ⟨by rw [hs1]; exact hs, hKI k A hi⟩
  · -- one round
    rintro k args X A hk ⟨hi0, hs0, hl0, hd0⟩ hXA hm
    have hi := hI k X A hi0 hXA.ofNew
    have hs := Nat.le_trans hs0 hXA.size
    have hl := hXA.heap hl0 (not_nob _)
    have hd := hXA.heap hd0 (not_nob _)
    have hy := run_yield (P := P) (args := args) hl (by rw [hrc]; exact hps _ k args A hm)
    refine ⟨fn, (ps.zip args).foldl (fun t (p, v) => t.setIfInBounds p v) a.tmps, assign, body, by rw [hrc] at hy; exact hy, roundIn_of_wpIn trivial (wpIn_mono (hround k args X A hk hi0 hs0 hXA hi hm) ?_)⟩
    clear hy
    rintro e a₁ A₁ hq
    cases e with
    | normal => ?_
    | ret => exact hq.elim
    | exit id => exact hq.elim
    | goto t => exact hq.elim
    | panic c => exact hq.elim
    | outgrown => exact hq.elim
    obtain ⟨hhA, hbod⟩ := hq
    replace hl : A₁.heap[D + 1]? = some (.loop (rc .ready none)) := (hhA _ (.inr rfl)).trans hl
    replace hd : A₁.heap[D]? = some (.deferred (some [])) := (hhA _ (.inl rfl)).trans hd
    have hsA : D + 1 < A₁.heap.size := (Array.getElem?_eq_some_iff.1 hl).1
    obtain ⟨B, hB⟩ : ∃ B, A₁.putObj (D + 1) (.loop { rc .ready none with state := .busy }) = B := ⟨_, rfl⟩
    have hcB : Chg (bookB D) A₁ B := by rw [← hB]; exact chg_books (D + 1) (.inr rfl) (chg_putObj _ _ _)
    have hlB : B.heap[D + 1]? = some (.loop { rc .ready none with state := .busy }) := by rw [← hB]; exact World.putObj_heap_same (by omega)
    have hdB : B.heap[D]? = some (.deferred (some [])) := by rw [← hB]; exact (World.putObj_heap_other (by omega)).trans hd
    refine ⟨B, by rw [← hB]; exact run_beginRound hl (by rw [hrc]), ?_⟩
    refine wpIn_mono (hbod B hcB (by rw [← hB]; simp)) ?_
    have fin : ∀ (jump : Option Code) (C : World), HoldB D B C → ∃ E, (Instr.endRound (D + 1) jump).run P C = .ok (.bool jump.isNone) E ∧ Chg (bookB D) C E ∧ E.heap[D + 1]? = some (.loop (rc (if jump.isNone then .ready else .done) jump)) ∧ E.heap[D]? = some (.deferred (some [])) ∧ D + 2 ≤ C.heap.size := by
      intro jump C hh
      have hlC : C.heap[D + 1]? = some (.loop { rc .ready none with state := .busy }) := (hh _ (.inr rfl)).trans hlB
      have hlt : D + 1 < C.heap.size := (Array.getElem?_eq_some_iff.1 hlC).1
      have hr := run_endRound (P := P) jump hlC
      refine ⟨_, hr, chg_books (D + 1) (.inr rfl) (chg_putObj _ _ _), ?_, (World.putObj_heap_other (by omega)).trans ((hh _ (.inl rfl)).trans hdB), by omega⟩
      rw [World.putObj_heap_same hlt, hrc]
    rintro e a3 C hp
    cases e with
    | normal =>
      obtain ⟨hh, hi3⟩ := hp
      obtain ⟨E, hr, hcE, hlE, hdE, hsE⟩ := fin none C hh
      exact ⟨_, E, hr, .inl ⟨rfl, hI _ _ _ hi3 hcE, Nat.le_trans hsE hcE.size, hlE, hdE⟩⟩
    | ret =>
      obtain ⟨hh, hi3⟩ := hp
      obtain ⟨E, hr, hcE, hlE, hdE, hsE⟩ := fin (some .ret) C hh
      exact ⟨_, E, hr, .inr ⟨rfl, _, hIx _ _ _ _ hi3 hcE, hlE, hdE⟩⟩
    | exit id =>
      obtain ⟨hh, hi3⟩ := hp
      obtain ⟨E, hr, hcE, hlE, hdE, hsE⟩ := fin (some (.exit id)) C hh
      exact ⟨_, E, hr, .inr ⟨rfl, _, hIx _ _ _ _ hi3 hcE, hlE, hdE⟩⟩
    | goto t =>
      obtain ⟨hh, hi3⟩ := hp
      obtain ⟨E, hr, hcE, hlE, hdE, hsE⟩ := fin (some (.goto t)) C hh
      exact ⟨_, E, hr, .inr ⟨rfl, _, hIx _ _ _ _ hi3 hcE, hlE, hdE⟩⟩
    | panic ch => exact hp.elim
    | outgrown => exact hp.elim
  · -- behind the iterator
    rintro e B ⟨⟨v, rfl⟩, ⟨hi, _, hl, hd⟩ | ⟨k, hk, c, hi, hl, hd⟩⟩
    · have hr := run_endLoop (P := P) hl (by rw [hrc]; simp [rec_])
      refine ⟨none, _, by rw [hr, hrc], ?_⟩
      exact hdone _ (hI _ _ _ hi (chg_books (D + 1) (.inr rfl) (chg_putObj _ _ _))) ((World.putObj_heap_other (by omega)).trans hd)
    · have hr := run_endLoop (P := P) hl (by rw [hrc]; simp [rec_])
      refine ⟨some c, _, by rw [hr, hrc], ?_⟩
      exact wpIn_wide.2 (hstop c k _ hk (hIx _ _ _ _ hi (chg_books (D + 1) (.inr rfl) (chg_putObj _ _ _))) ((World.putObj_heap_other (by omega)).trans hd))
/-- A function that holds such a statement leaves with a mark. -/
theorem calls_of_wp_marks {P : Program} {f : FuncId} {fn : Func} {c : Code} {args : Array Value} {w : World} {R : Ending → World → Prop} (hf : P.funcs[f]? = some fn) (hb : fn.body = some c)
    (h : c.wp P (bodyPostM Fence.wide 0 P fn R) { tmps := args ++ Array.replicate (fn.ntmps - args.size) undef, defers := [] } w) : Calls P f args w R :=
  callsIn_wide.1 (callsIn_of_wp_marks (n := 0) hf hb trivial (wpIn_wide.2 h) rfl)
/-- The way out behind the loop: one mark. -/
theorem leaves_mark {P : Program} {fn : Func} {tmps : Array Value} {R : Ending → World → Prop} {D : Nat} {w : World} (hd : w.heap[D]? = some (.deferred (some []))) (v : Value)
    (hr : (results fn tmps).run P (w.putObj D (.deferred none)) = .ok v (w.putObj D (.deferred none))) (h : R (.returned v) (w.putObj D (.deferred none))) :
    LeavesInM Fence.wide 0 P fn tmps R [{ target := .collected D, args := #[] }] .returning w :=
  ⟨by simp, .inl ⟨D, _, rfl, run_takeDeferred hd, by exact ⟨v, hr, h⟩⟩⟩
/-- The ways out, stated as everywhere. -/
theorem marks_ret {P : Program} {fn : Func} {R : Ending → World → Prop} {a : Act} {w : World} (h : bodyPost P fn R .ret a w) : bodyPostM Fence.wide 0 P fn R .ret a w := by
  obtain ⟨hd, v, hr, h⟩ := h
  unfold bodyPostM
  simp only
  rw [hd]
  exact ⟨v, hr, h⟩
theorem marks_ret1 {P : Program} {fn : Func} {R : Ending → World → Prop} {tmps : Array Value} {D : Nat} {w : World} (hd : w.heap[D]? = some (.deferred (some []))) (h : bodyPost P fn R .ret { tmps := tmps, defers := [] } (w.putObj D (.deferred none))) :
    bodyPostM Fence.wide 0 P fn R .ret { tmps := tmps, defers := [{ target := .collected D, args := #[] }] } w := by
  obtain ⟨_, v, hr, h⟩ := h
  exact leaves_mark hd v hr h
/-! ### Within a round: a region that holds no 'defer' is walked as everywhere. -/
/-- No way out but those that the code names. -/
def noOut (Q : Exit → Act → World → Prop) : Exit → Act → World → Prop
  | .outgrown, _, _ => False
  | .normal, a, w => Q .normal a w
  | .ret, a, w => Q .ret a w
  | .exit id, a, w => Q (.exit id) a w
  | .goto t, a, w => Q (.goto t) a w
  | .panic c, a, w => Q (.panic c) a w
theorem noOut_no (Q : Exit → Act → World → Prop) : ¬ LetsOut (noOut Q) := fun ⟨_, _, h⟩ => h
theorem rowsIn_round {P : Program} {l : Nat} {row : String} {args : Array Value} {w : World} {R : Value → World → Prop} (h : Rows P row args w R) : RowsIn (Fence.wide.inRound l) 0 P row args w R := by
  intro c cs _
  obtain ⟨v, w', r, s⟩ := h c cs
  exact ⟨v, w', r, stepsIn_wide.2 s⟩
theorem wpIn_of_wp {P : Program} {l : Nat} {o : Oper} (hd : ∀ c, o.op ≠ .defer c) {a : Act} {w : World} {K : Act → World → Prop} {Q : Exit → Act → World → Prop} (h : o.wp P a w K (noOut Q)) : o.wpIn (Fence.wide.inRound l) 0 P a w K Q := by
  refine ⟨fun _ _ => trivial, ?_⟩
  rw [show (Fence.wide.inRound l).round = some l from rfl, Oper.semAt_some _ _ _ hd]
  unfold Oper.wp at h
  revert h
  generalize (execOp a.eval o).run P w = r
  intro h
  have hdep : ∀ {p : Prop}, (Fence.wide.inRound l).depth.isSome = true → p := fun h => by simp [Fence.wide] at h
  cases r with
  | ok nx w1 =>
    cases nx with
    | value v => exact h
    | skip => exact h
    | defer d => exact h
    | enter f args =>
      refine ⟨hdep, CallsIn.inRound l (callsIn_wide.2 (Calls.mono (R := _) h ?_))⟩
      rintro e w2 hr
      cases e with
      | returned v => exact hr
      | panicked c => exact hr
      | outgrown => exact (noOut_no Q hr).elim
    | row r args => exact ⟨hdep, rowsIn_round h⟩
    | round l2 f tmps as bd => exact h.elim
    | _ => exact h.elim
  | halt hh w1 =>
    cases hh with
    | panic v => exact h
    | _ => exact h.elim
theorem listIn_of_list {P : Program} {l : Nat} {ops : Array Oper} {Q : Exit → Act → World → Prop} : ∀ (L : List Oper) {a : Act} {w : World}, (∀ o ∈ L, ∀ c, o.op ≠ .defer c) → wpList P ops (noOut Q) L a w → wpListIn (Fence.wide.inRound l) 0 P ops Q L a w
  | [], _, _, _, h => h
  | o :: L, a, w, hd, h => by
    unfold wpListIn
    unfold wpList at h
    split
    · next hw =>
      rw [if_pos hw] at h
      rcases h with h | ⟨_, h⟩
      · exact wpIn_of_wp (hd o List.mem_cons_self) (Oper.wp_mono (fun a' w' h' => listIn_of_list L (fun o' ho => hd o' (List.mem_cons_of_mem _ ho)) h') h)
      · exact (noOut_no Q h).elim
    · next hw =>
      rw [if_neg hw] at h
      exact ⟨fun _ _ => trivial, listIn_of_list L (fun o' ho => hd o' (List.mem_cons_of_mem _ ho)) h⟩
/-- No operation of these is a 'defer'. -/
def noDefer (L : List Oper) : Bool := L.all fun o => match o.op with
  | .defer _ => false
  | _ => true
theorem noDefer_out {L : List Oper} (h : noDefer L = true) : ∀ o ∈ L, ∀ c, o.op ≠ .defer c := by
  intro o ho c e
  have := List.all_eq_true.1 h o ho
  rw [e] at this
  cases this
theorem round_region {P : Program} {l id : Nat} {L : List Oper} {Q : Exit → Act → World → Prop} {a : Act} {w : World} (hd : noDefer L = true) (h : wpList P L.toArray (noOut Q) L a w) :
    (Code.region id L.toArray false).wpIn (Fence.wide.inRound l) 0 P Q a w :=
  wpIn_region_lit (listIn_of_list L (noDefer_out hd) h)
end Go.Proofs.Ytcibdcahcpcmaaa
