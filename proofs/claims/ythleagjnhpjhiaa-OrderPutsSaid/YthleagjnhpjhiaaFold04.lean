import Derived.Test.YthleagjnhpjhiaaFold01
import Derived.Test.YthleagjnhpjhiaaRows
import Derived.ProofKit
import Derived.OpenShut
import Derived.ShutString
import Derived.ChangeOld
import Derived.JoinedCond
import Derived.Below
/- How the data that a call is handed read in this seat's words: each reading of an argument as data gives the list, or the number, of the words in the Kit; 'bulk' counts as the given Rows count. -/
namespace Go.Proofs.Ythleagjnhpjhiaa
open Go.RowKit Go.ChangeShapes Go.WideShapes Go.ChangeAt
set_option linter.unusedVariables false

/-- Data of type t read as values of the kind d. -/
def Opens {α : Type} (P : Program) (d : Kd α) (t : TypeId) (bulk : α → Nat) : Prop :=
  P.cellsOf t = d.sz ∧ ∀ {H : Type} (enc : TypeId × Value → H) (w : World) (n : Nat) (cs : List Value) (x : DataW H × List MemPlace),
    DataW.trod enc P w 0 (fun _ => true) true n t cs = some x → ∃ a, d.K w (fun k => k < w.heap.size) a cs ∧ bulk a ≤ Rows.uptoBulk x.1
/-- The same of a struct's fields from an offset on. -/
structure OpensF {α : Type} (P : Program) (d : Kd α) (fs : List Field) (off : Nat) (bulk : α → Nat) : Prop where
  go : ∀ {H : Type} (enc : TypeId × Value → H) (w : World) (n : Nat) (cs : List Value) (xs : List (DataW H × List MemPlace)), off + d.sz = cs.length → xs.length = fs.length →
    (∀ (i : Nat) (f : Field), fs[i]? = some f → DataW.trod enc P w 0 (fun _ => true) true n f.type (List.take (P.cellsOf f.type) (List.drop f.offset cs)) = xs[i]?) →
    ∃ a, d.K w (fun k => k < w.heap.size) a (cs.drop off) ∧ bulk a ≤ Rows.uptoBulkAll (xs.map (·.1))
def bulkL {α : Type} (f : α → Nat) : List α → Nat
  | [] => 0
  | a :: l => f a + bulkL f l
theorem bulkL_append {α : Type} (f : α → Nat) (l m : List α) : bulkL f (l ++ m) = bulkL f l + bulkL f m := by
  induction l with
  | nil => simp [bulkL]
  | cons a l ih => simp [bulkL, ih, Nat.add_assoc]
theorem bulkL_len {α : Type} (f : α → Nat) (hf : ∀ a, 1 ≤ f a) (l : List α) : l.length ≤ bulkL f l := by
  induction l with
  | nil => simp [bulkL]
  | cons a l ih => simp [bulkL]; have := hf a; omega
theorem bulkL_mem {α : Type} (f : α → Nat) {a : α} {l : List α} (h : a ∈ l) : f a ≤ bulkL f l := by
  induction l with
  | nil => cases h
  | cons b l ih =>
    simp only [bulkL]
    rcases List.mem_cons.1 h with rfl | h
    · omega
    · have := ih h; omega
section
variable {P : Program} {t e : TypeId} {α β : Type} {d : Kd α}
theorem opens_bool (ht : P.underlying t = some .bool) (hc : P.cellsOf t = 1) : Opens P Kd.bool t (fun _ => 1) :=
  ⟨hc, fun enc w n cs x h => by
    obtain ⟨b, rfl, rfl⟩ := DataW.trod_bool ht h
    exact ⟨b, rfl, by simp [Rows.uptoBulk]⟩⟩
theorem opens_int {k : IntKind} (ht : P.underlying t = some (.int k)) (hc : P.cellsOf t = 1) : Opens P (Kd.such (Kd.int k) (fun x => (Lit.int k x).wf = true)) t (fun _ => 1) :=
  ⟨hc, fun enc w n cs x h => by
    obtain ⟨b, rfl, rfl, hw⟩ := DataW.trod_int ht h
    exact ⟨b, ⟨rfl, hw⟩, by simp [Rows.uptoBulk]⟩⟩
theorem opens_byte (ht : P.underlying t = some (.int .u8)) (hc : P.cellsOf t = 1) : Opens P Kd.byte t (fun _ => 1) :=
  ⟨hc, fun enc w n cs x h => by
    obtain ⟨b, rfl, rfl, hw⟩ := DataW.trod_int ht h
    have hb : 0 ≤ b ∧ b ≤ 255 := by simpa [Lit.wf, IntKind.min, IntKind.max, IntKind.signed, IntKind.bits] using hw
    refine ⟨UInt8.ofNat b.toNat, ?_, by simp [Rows.uptoBulk]⟩
    show [Value.int .u8 b] = [Value.int .u8 ((UInt8.ofNat b.toNat).toNat : Int)]
    rw [UInt8.toNat_ofNat_of_lt' (by show b.toNat < 256; omega)]
    congr 2
    omega⟩
theorem opens_string (ht : P.underlying t = some .string) (hc : P.cellsOf t = 1) : Opens P (Kd.such Kd.string (fun s => s.size ≤ maxLen)) t (fun s => s.size + 1) :=
  ⟨hc, fun enc w n cs x h => by
    obtain ⟨s, rfl, rfl, hs⟩ := DataW.trod_string ht h
    exact ⟨s, ⟨rfl, hs⟩, by simp [Rows.uptoBulk]⟩⟩
end
/-- The list of an existence, one by one. -/
theorem choose_list {α : Type} (n : Nat) (p : Nat → α → Prop) (h : ∀ i, i < n → ∃ a, p i a) : ∃ l : List α, l.length = n ∧ ∀ i a, l[i]? = some a → p i a := by
  induction n with
  | zero => exact ⟨[], rfl, fun i a h => by simp at h⟩
  | succ n ih =>
    obtain ⟨l, hl, hp⟩ := ih (fun i hi => h i (by omega))
    obtain ⟨a, ha⟩ := h n (by omega)
    refine ⟨l ++ [a], by simp [hl], fun i b hb => ?_⟩
    rcases Nat.lt_or_ge i l.length with hi | hi
    · rw [List.getElem?_append_left hi] at hb
      exact hp i b hb
    · have : i = n := by have := (List.getElem?_eq_some_iff.1 hb).1; simp at this; omega
      subst this
      rw [← hl, List.getElem?_concat_length] at hb
      cases hb
      exact ha
theorem flat_at {sz : Nat} (hs : 0 < sz) (cs : List (List Value)) (hl : ∀ c ∈ cs, c.length = sz) : cs.flatten.length = cs.length * sz ∧ (∀ j c, cs[j]? = some c → (cs.flatten.drop (j * sz)).take sz = c) := by
  induction cs with
  | nil => exact ⟨by simp, fun j c h => by simp at h⟩
  | cons a l ih =>
    have ha := hl a List.mem_cons_self
    obtain ⟨i1, i2⟩ := ih (fun c hc => hl c (List.mem_cons_of_mem _ hc))
    refine ⟨by simp [List.flatten_cons, i1, ha, Nat.add_mul, Nat.add_comm], fun j c hc => ?_⟩
    cases j with
    | zero =>
      simp at hc
      subst hc
      rw [List.flatten_cons, Nat.zero_mul, List.drop_zero, ← ha, List.take_left]
    | succ j =>
      rw [List.getElem?_cons_succ] at hc
      rw [List.flatten_cons, Nat.add_mul, Nat.one_mul, Nat.add_comm, ← ha, List.drop_length_add_append, ha]
      exact i2 j c hc
section
variable {P : Program} {t e : TypeId} {α β : Type} {d : Kd α}
theorem opens_slice {f : α → Nat} (ht : P.underlying t = some (.slice e)) (hc : P.cellsOf t = 1) (h : Opens P d e f) : Opens P (Kd.slice d) t (fun l => bulkL f l + 1) := by
  refine ⟨hc, fun {H} enc w n cs x hx => ?_⟩
  obtain ⟨hsz, ho⟩ := h
  rcases DataW.trod_slice ht hx with ⟨rfl, rfl⟩ | ⟨a, len, cap, elems, rest, n, _, rfl, rfl, hb, hl, hm, hlen, hel, _, _⟩
  · exact ⟨[], ⟨none, 0, rfl, Nat.le_refl _, Kd.C_nil _ _ _ _⟩, by simp [Rows.uptoBulk, bulkL]⟩
  · have each : ∀ i, i < len → ∃ y : α × List Value, w.cells? 0 (a.add (i * P.cellsOf e)) (P.cellsOf e) = some y.2 ∧ d.K w (fun k => k < w.heap.size) y.1 y.2 ∧ ∃ z, elems[i]? = some z ∧ f y.1 ≤ Rows.uptoBulk z.1 := by
      intro i hi
      have hz := hel i hi
      rw [List.getElem?_eq_getElem (by omega)] at hz
      obtain ⟨c, h1, h2⟩ := Option.bind_eq_some_iff.1 hz
      obtain ⟨y, h3, h4⟩ := ho enc w n c _ h2
      exact ⟨(y, c), h1, h3, _, List.getElem?_eq_getElem (by omega), h4⟩
    obtain ⟨l, hll, hp⟩ := choose_list len _ each
    have hcl : ∀ c ∈ l.map (·.2), c.length = d.sz := by
      intro c hc
      obtain ⟨y, hy, rfl⟩ := List.mem_map.1 hc
      obtain ⟨i, hi⟩ := List.mem_iff_getElem?.1 hy
      exact d.len (hp i y hi).2.1
    obtain ⟨f1, f2⟩ := flat_at d.pos (l.map (·.2)) hcl
    have hrep : Reps (d.K w (fun k => k < w.heap.size)) d.sz (l.map (·.1)) (l.map (·.2)).flatten := by
      refine ⟨by rw [f1]; simp, fun j y hy => ?_⟩
      rw [List.getElem?_map] at hy
      obtain ⟨z, hz, rfl⟩ := Option.map_eq_some_iff.1 hy
      rw [f2 j z.2 (by rw [List.getElem?_map, hz]; rfl)]
      exact (hp j z hz).2.1
    have hbulk : bulkL f (l.map (·.1)) ≤ Rows.uptoBulkAll (elems.map (·.1)) := by
      have gen : ∀ (l : List (α × List Value)) (es : List (DataW H × List MemPlace)), l.length = es.length → (∀ (i : Nat) (y : α × List Value), l[i]? = some y → ∃ z, es[i]? = some z ∧ f y.1 ≤ Rows.uptoBulk z.1) → bulkL f (l.map (·.1)) ≤ Rows.uptoBulkAll (es.map (·.1)) := by
        intro l
        induction l with
        | nil => intro es _ _; simp [bulkL]
        | cons y l ih =>
          intro es he hh
          cases es with
          | nil => simp at he
          | cons z es =>
            obtain ⟨z', h1, h2⟩ := hh 0 y rfl
            simp at h1
            subst h1
            have := ih es (by simpa using he) (fun i y hy => hh (i + 1) y (by simpa using hy))
            simp only [List.map_cons, bulkL, Rows.uptoBulkAll]
            omega
      exact gen l elems (by omega) (fun i y hy => (hp i y hy).2.2)
    refine ⟨l.map (·.1), ⟨some a, cap, by simp [hll], by simp; omega, ?_⟩, by simp [Rows.uptoBulk]; omega⟩
    refine ⟨by simp [maxLen] at *; omega, _, hrep, fun hn => ⟨a, rfl, ?_, ?_⟩⟩
    · simp at hn
      obtain ⟨y, hy⟩ : ∃ y, l[0]? = some y := ⟨_, List.getElem?_eq_getElem (by simpa using hn)⟩
      have := World.cells?_block (hp 0 y hy).1 (by rw [hsz]; exact d.pos)
      rwa [block_add] at this
    · intro j u hu
      have hj : j < (l.map (·.2)).flatten.length := (List.getElem?_eq_some_iff.1 hu).1
      rw [f1, List.length_map] at hj
      have hq : j / d.sz < l.length := by rw [Nat.div_lt_iff_lt_mul d.pos]; exact hj
      obtain ⟨y, hy⟩ : ∃ y, l[j / d.sz]? = some y := ⟨_, List.getElem?_eq_getElem hq⟩
      have hy2 := f2 (j / d.sz) y.2 (by rw [List.getElem?_map, hy]; rfl)
      have hm := Nat.mod_lt j d.pos
      have hdm := Nat.div_add_mod j d.sz
      have hu2 : y.2[j % d.sz]? = some u := by
        rw [← hy2, List.getElem?_take, if_pos hm, List.getElem?_drop, show j / d.sz * d.sz + j % d.sz = j from by rw [Nat.mul_comm]; exact hdm]
        exact hu
      have h1 := (World.cells?_some (hp _ y hy).1).2.2 (j % d.sz) (by rw [hsz]; exact hm)
      rw [hu2, add_add, hsz, show j / d.sz * d.sz + j % d.sz = j from by rw [Nat.mul_comm]; exact hdm] at h1
      exact h1
theorem opens_iso {f : β → α} (g : α → β) (hg : ∀ a, f (g a) = a) {b : α → Nat} (h : Opens P d t b) : Opens P (Kd.iso d f) t (fun x => b (f x)) := by
  refine ⟨h.1, fun enc w n cs x hx => ?_⟩
  obtain ⟨a, h1, h2⟩ := h.2 enc w n cs x hx
  exact ⟨g a, by show d.K w _ (f (g a)) cs; rw [hg]; exact h1, by show b (f (g a)) ≤ _; rw [hg]; exact h2⟩
/-- A struct, field by field: its last field .. -/
theorem opensF_last {b : α → Nat} {fd : Field} {off : Nat} (h : Opens P d fd.type b) (hoff : fd.offset = off) : OpensF P d [fd] off b := by
  refine ⟨?_⟩
  intro H enc w n cs xs hl hx hf
  have := hf 0 fd rfl
  rw [List.getElem?_eq_getElem (by simp at hx; omega)] at this
  obtain ⟨a, h1, h2⟩ := h.2 enc w n _ _ this
  rw [hoff, h.1, List.take_of_length_le (by rw [List.length_drop]; omega)] at h1
  refine ⟨a, h1, ?_⟩
  match xs, hx with
  | [x], _ => simp only [List.map_cons, List.map_nil, Rows.uptoBulkAll]; simpa using h2
/-- .. and a field ahead of others. -/
theorem opensF_cons {D : Kd β} {b : α → Nat} {c : β → Nat} {fd : Field} {fs : List Field} {off : Nat} (h : Opens P d fd.type b) (hoff : fd.offset = off) (k : OpensF P D fs (off + d.sz) c) :
    OpensF P (Kd.pair d D) (fd :: fs) off (fun x => b x.1 + c x.2) := by
  refine ⟨?_⟩
  intro H enc w n cs xs hl hx hf
  match xs, hx with
  | x :: xs, hx =>
    have h0 := hf 0 fd rfl
    simp only [List.getElem?_cons_zero] at h0
    obtain ⟨a, h1, h2⟩ := h.2 enc w n _ _ h0
    have hl' : off + (d.sz + D.sz) = cs.length := hl
    obtain ⟨q, h3, h4⟩ := k.go enc w n cs xs (by omega) (by simpa using hx) (fun i f hi => by simpa using hf (i + 1) f (by simpa using hi))
    refine ⟨(a, q), ⟨_, _, ?_, h1, h3⟩, by simp only [List.map_cons, Rows.uptoBulkAll]; omega⟩
    rw [hoff, h.1, ← List.drop_drop]
    exact (List.take_append_drop _ _).symm
theorem opens_struct {fs : Array Field} {b : α → Nat} (ht : P.underlying t = some (.struct fs)) (hc : P.cellsOf t = d.sz) (h : OpensF P d fs.toList 0 b) : Opens P d t (fun x => b x + 1) := by
  refine ⟨hc, fun enc w n cs x hx => ?_⟩
  obtain ⟨xs, m, _, rfl, h1, h2, h3⟩ := DataW.trod_struct ht hx
  obtain ⟨a, h4, h5⟩ := h.go enc w m cs xs (by omega) (by simpa using h2) (fun i f hi => h3 i f (by simpa using hi))
  exact ⟨a, by simpa using h4, by simp only [Rows.uptoBulk]; omega⟩
end
/-! ### what is known of each element -/
theorem Kd.C_all {α : Type} {d : Kd α} {p : α → Prop} {w : World} {ok : Nat → Prop} {A : Option Addr} {xs : List α} (h : (Kd.such d p).C w ok A xs) : (d.C w ok A xs) ∧ ∀ x ∈ xs, p x := by
  obtain ⟨h1, inner, hr, hc⟩ := h
  refine ⟨⟨h1, inner, hr.imp (fun _ _ hx => hx.1), hc⟩, fun x hx => ?_⟩
  obtain ⟨j, hj⟩ := List.mem_iff_getElem?.1 hx
  exact (hr.2 j x hj).2
theorem wf_u32 {x : Int} (h : (Lit.int .u32 x).wf = true) : 0 ≤ x ∧ x < 4294967296 := by
  have : 0 ≤ x ∧ x ≤ 4294967295 := by simpa [Lit.wf, IntKind.min, IntKind.max, IntKind.signed, IntKind.bits] using h
  omega
theorem wf_i64 {x : Int} (h : (Lit.int .i64 x).wf = true) : -9223372036854775808 ≤ x ∧ x ≤ 9223372036854775807 := by
  simpa [Lit.wf, IntKind.min, IntKind.max, IntKind.signed, IntKind.bits] using h
theorem wf_u64 {x : Int} (h : (Lit.int .u64 x).wf = true) : 0 ≤ x ∧ x ≤ 18446744073709551615 := by
  simpa [Lit.wf, IntKind.min, IntKind.max, IntKind.signed, IntKind.bits] using h
theorem wf_u16 {x : Int} (h : (Lit.int .u16 x).wf = true) : 0 ≤ x ∧ x ≤ 65535 := by
  simpa [Lit.wf, IntKind.min, IntKind.max, IntKind.signed, IntKind.bits] using h
end Go.Proofs.Ythleagjnhpjhiaa
