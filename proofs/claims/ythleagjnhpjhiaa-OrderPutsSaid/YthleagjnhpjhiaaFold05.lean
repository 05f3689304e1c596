import Derived.Test.YthleagjnhpjhiaaFold04
import Derived.SizedLaws
import Derived.Test.YthleagjnhpjhiaaFold03
/- How the data that a call is handed read in this seat's words, where the form's own reach bounds each string and each slice. -/
namespace Go.Proofs.Ythleagjnhpjhiaa
open Go.RowKit Go.ChangeShapes Go.WideShapes Go.ChangeAt
set_option linter.unusedVariables false
/-- Data of type t within the reach, read as values of the kind d. -/
def OpensS {α : Type} (P : Program) (d : Kd α) (t : TypeId) : Prop :=
  P.cellsOf t = d.sz ∧ ∀ {H : Type} (enc : TypeId × Value → H) (w : World) (n : Nat) (cs : List Value) (x : DataW H × List MemPlace),
    DataW.trod enc P w 0 (fun _ => true) true n t cs = some x → (∀ v ∈ x.1.weights P t, v ≤ reachBytes) → ∃ a, d.K w (fun k => k < w.heap.size) a cs
structure OpensSF {α : Type} (P : Program) (d : Kd α) (fs : List Field) (off : Nat) : Prop where
  go : ∀ {H : Type} (enc : TypeId × Value → H) (w : World) (n : Nat) (cs : List Value) (xs : List (DataW H × List MemPlace)), off + d.sz = cs.length → xs.length = fs.length →
    (∀ (i : Nat) (f : Field), fs[i]? = some f → DataW.trod enc P w 0 (fun _ => true) true n f.type (List.take (P.cellsOf f.type) (List.drop f.offset cs)) = xs[i]?) →
    (∀ v ∈ DataW.weightsEach P (fs.map (·.type)) (xs.map (·.1)), v ≤ reachBytes) → ∃ a, d.K w (fun k => k < w.heap.size) a (cs.drop off)
theorem reach_val : reachBytes = 140737488351232 := rfl
section
variable {P : Program} {t e : TypeId} {α β : Type} {d : Kd α}
theorem opensS_of {b : α → Nat} (h : Opens P d t b) : OpensS P d t := ⟨h.1, fun enc w n cs x hx _ => by obtain ⟨a, h1, _⟩ := h.2 enc w n cs x hx; exact ⟨a, h1⟩⟩
theorem opensS_string (ht : P.underlying t = some .string) (hc : P.cellsOf t = 1) : OpensS P (Kd.such Kd.string (fun s => s.size ≤ 140737488351232)) t :=
  ⟨hc, fun enc w n cs x h hw => by
    obtain ⟨s, rfl, rfl, hs⟩ := DataW.trod_string ht h
    refine ⟨s, rfl, ?_⟩
    have := hw s.data.toList.length (by simp [DataW.weights])
    rw [reach_val] at this
    simpa using this⟩
theorem weightsAll_memS {H : Type} {P : Program} {e : TypeId} : ∀ {l : List (DataW H)} {d : DataW H}, d ∈ l → ∀ n ∈ d.weights P e, n ∈ DataW.weightsAll P e l
  | x :: l, d, hd, n, hn => by
    simp only [DataW.weightsAll, List.mem_append]
    rcases List.mem_cons.1 hd with rfl | hd
    · exact .inl hn
    · exact .inr (weightsAll_memS hd n hn)
theorem opensS_slice (ht : P.underlying t = some (.slice e)) (hc : P.cellsOf t = 1) {by_ : Nat} (hby : P.bytesOf e = by_) (h : OpensS P d e) : OpensS P (Kd.such (Kd.slice d) (fun l => l.length * by_ ≤ 140737488351232)) t := by
  refine ⟨hc, fun {H} enc w n cs x hx hw => ?_⟩
  obtain ⟨hsz, ho⟩ := h
  rcases DataW.trod_slice ht hx with ⟨rfl, rfl⟩ | ⟨a, len, cap, elems, rest, n, _, rfl, rfl, hb, hl, hm, hlen, hel, _, _⟩
  · exact ⟨[], ⟨none, 0, rfl, Nat.le_refl _, Kd.C_nil _ _ _ _⟩, by simp⟩
  · have hwe : ∀ z ∈ elems, ∀ v ∈ z.1.weights P e, v ≤ reachBytes := by
      intro z hz v hv
      refine hw v ?_
      simp only [DataW.weights, ht, List.mem_cons, List.mem_append]
      exact .inr (.inl (weightsAll_memS (List.mem_map_of_mem (f := (·.1)) hz) v hv))
    have hwl : len * by_ ≤ 140737488351232 := by
      have := hw ((elems.map (·.1)).length * P.bytesOf e + (rest.map (·.1)).length * P.bytesOf e) (by simp [DataW.weights, ht, Nat.add_mul])
      rw [reach_val, hby] at this
      simp only [List.length_map] at this
      rw [← hlen]
      omega
    have each : ∀ i, i < len → ∃ y : α × List Value, w.cells? 0 (a.add (i * P.cellsOf e)) (P.cellsOf e) = some y.2 ∧ d.K w (fun k => k < w.heap.size) y.1 y.2 := by
      intro i hi
      have hz := hel i hi
      rw [List.getElem?_eq_getElem (by omega)] at hz
      obtain ⟨c, h1, h2⟩ := Option.bind_eq_some_iff.1 hz
      obtain ⟨y, h3⟩ := ho enc w n c _ h2 (hwe _ (List.getElem_mem _))
      exact ⟨(y, c), h1, h3⟩
    obtain ⟨l, hll, hp⟩ := choose_list len _ each
    have hcl : ∀ c ∈ l.map (·.2), c.length = d.sz := by
      intro c hc
      obtain ⟨y, hy, rfl⟩ := List.mem_map.1 hc
      obtain ⟨i, hi⟩ := List.mem_iff_getElem?.1 hy
      exact d.len (hp i y hi).2
    obtain ⟨f1, f2⟩ := flat_at d.pos (l.map (·.2)) hcl
    have hrep : Reps (d.K w (fun k => k < w.heap.size)) d.sz (l.map (·.1)) (l.map (·.2)).flatten := by
      refine ⟨by rw [f1]; simp, fun j y hy => ?_⟩
      rw [List.getElem?_map] at hy
      obtain ⟨z, hz, rfl⟩ := Option.map_eq_some_iff.1 hy
      rw [f2 j z.2 (by rw [List.getElem?_map, hz]; rfl)]
      exact (hp j z hz).2
    refine ⟨l.map (·.1), ⟨some a, cap, by simp [hll], by simp; omega, ?_⟩, by simpa [hll] using hwl⟩
    refine ⟨by simp [maxLen] at *; omega, _, hrep, fun hn => ⟨a, rfl, ?_, ?_⟩⟩
    · simp at hn
      obtain ⟨y, hy⟩ : ∃ y, l[0]? = some y := ⟨_, List.getElem?_eq_getElem (by simpa using hn)⟩
      have := World.cells?_block (hp 0 y hy).1 (by rw [hsz]; exact d.pos)
      rwa [block_add] at this
    · intro j u hu
      have hj : j < (l.map (·.2)).flatten.length := (List.getElem?_eq_some_iff.1 hu).1
      rw [f1, List.length_map] at hj
      have hq : j / d.sz < l.length := by rw [Nat.div_lt_iff_lt_mul d.pos]; exact hj
      obtain ⟨y, hy⟩ : ∃ y, l[j / d.sz]? = some y := ⟨_, List.getElem?_eq_getElem hq⟩
      have hy2 := f2 (j / d.sz) y.2 (by rw [List.getElem?_map, hy]; rfl)
      have hm := Nat.mod_lt j d.pos
      have hdm := Nat.div_add_mod j d.sz
      have hu2 : y.2[j % d.sz]? = some u := by
        rw [← hy2, List.getElem?_take, if_pos hm, List.getElem?_drop, show j / d.sz * d.sz + j % d.sz = j from by rw [Nat.mul_comm]; exact hdm]
        exact hu
      have h1 := (World.cells?_some (hp _ y hy).1).2.2 (j % d.sz) (by rw [hsz]; exact hm)
      rw [hu2, add_add, hsz, show j / d.sz * d.sz + j % d.sz = j from by rw [Nat.mul_comm]; exact hdm] at h1
      exact h1
theorem opensSF_last {fd : Field} {off : Nat} (h : OpensS P d fd.type) (hoff : fd.offset = off) : OpensSF P d [fd] off := by
  refine ⟨?_⟩
  intro H enc w n cs xs hl hx hf hw
  have := hf 0 fd rfl
  rw [List.getElem?_eq_getElem (by simp at hx; omega)] at this
  match xs, hx with
  | [x], _ =>
    obtain ⟨a, h1⟩ := h.2 enc w n _ _ this (fun v hv => hw v (by simpa [DataW.weightsEach] using hv))
    rw [hoff, h.1, List.take_of_length_le (by rw [List.length_drop]; omega)] at h1
    exact ⟨a, h1⟩
theorem opensSF_cons {D : Kd β} {fd : Field} {fs : List Field} {off : Nat} (h : OpensS P d fd.type) (hoff : fd.offset = off) (k : OpensSF P D fs (off + d.sz)) :
    OpensSF P (Kd.pair d D) (fd :: fs) off := by
  refine ⟨?_⟩
  intro H enc w n cs xs hl hx hf hw
  match xs, hx with
  | x :: xs, hx =>
    have h0 := hf 0 fd rfl
    simp only [List.getElem?_cons_zero] at h0
    obtain ⟨a, h1⟩ := h.2 enc w n _ _ h0 (fun v hv => hw v (by simp only [List.map_cons, DataW.weightsEach, List.mem_append]; exact .inl hv))
    have hl' : off + (d.sz + D.sz) = cs.length := hl
    obtain ⟨q, h3⟩ := k.go enc w n cs xs (by omega) (by simpa using hx) (fun i f hi => by simpa using hf (i + 1) f (by simpa using hi)) (fun v hv => hw v (by simp only [List.map_cons, DataW.weightsEach, List.mem_append]; exact .inr hv))
    refine ⟨(a, q), ⟨_, _, ?_, h1, h3⟩⟩
    rw [hoff, h.1, ← List.drop_drop]
    exact (List.take_append_drop _ _).symm
theorem opensS_struct {fs : Array Field} (ht : P.underlying t = some (.struct fs)) (hc : P.cellsOf t = d.sz) (h : OpensSF P d fs.toList 0) : OpensS P d t := by
  refine ⟨hc, fun enc w n cs x hx hw => ?_⟩
  obtain ⟨xs, m, _, rfl, h1, h2, h3⟩ := DataW.trod_struct ht hx
  obtain ⟨a, h4⟩ := h.go enc w m cs xs (by omega) (by simpa using h2) (fun i f hi => h3 i f (by simpa using hi)) (fun v hv => hw v (by simpa [DataW.weights, ht] using hv))
  exact ⟨a, by simpa using h4⟩
end
end Go.Proofs.Ythleagjnhpjhiaa

/- The catalog's data as arguments within the form's reach, as they are read. -/
namespace Go.Proofs.Ythleagjnhpjhiaa
open Go.RowKit
set_option linter.unusedVariables false
abbrev intW (k : IntKind) : Kd Int := Kd.such (Kd.int k) (fun x => (Lit.int k x).wf = true)
abbrev strW : Kd ByteArray := Kd.such Kd.string (fun s => s.size ≤ 140737488351232)
abbrev tagsW : Kd (List ByteArray) := listK strW 16
abbrev svcW : Kd Svc := Kd.pair (intW .i64) (Kd.pair strW (Kd.pair strW (Kd.pair tagsW (Kd.pair (intW .i64) (Kd.pair (intW .u64) (intW .u64))))))
abbrev nodW : Kd Nod := Kd.pair (intW .i64) (Kd.pair strW (Kd.pair (intW .u64) (intW .u64)))
abbrev chkW : Kd Chk := Kd.pair (intW .i64) (Kd.pair strW (Kd.pair strW (Kd.pair strW (Kd.pair (intW .i64) (Kd.pair (intW .u64) (intW .u64))))))
abbrev entW : Kd Ent := Kd.pair strW (Kd.pair strW (Kd.pair (intW .u64) (Kd.pair (intW .u64) (Kd.pair (intW .u64) (intW .u64)))))
abbrev itnW : Kd Itn := Kd.pair strW (Kd.pair strW (Kd.pair Kd.bool (Kd.pair (intW .u64) (intW .u64))))
abbrev instW : Kd Inst := Kd.pair svcW (intW .i64)
abbrev ownW : Kd Own := Kd.pair Kd.bool (Kd.pair (intW .i64) (Kd.pair strW (Kd.pair (listK svcW 88) (listK chkW 80))))
abbrev ansW : Kd Ans := Kd.pair (intW .i64) (Kd.pair (intW .u64) (Kd.pair ownW (Kd.pair (listK nodW 40) (Kd.pair (listK instW 96) (Kd.pair (listK entW 64) (listK itnW 56))))))
abbrev qryW : Kd Qry := Kd.pair (intW .i64) (Kd.pair (intW .i64) (Kd.pair strW (Kd.pair strW (Kd.pair strW Kd.bool))))
theorem int_le {k : IntKind} : (intW k).Le (Kd.int k) := .such (.refl _)
theorem str_le : strW.Le strK := .such (.refl _)
theorem tags_le : tagsW.Le tagsK := .suchs (.slice str_le)
theorem svc_le : svcW.Le svcK := .pair int_le (.pair str_le (.pair str_le (.pair tags_le (.pair int_le (.pair int_le int_le)))))
theorem nod_le : nodW.Le nodK := .pair int_le (.pair str_le (.pair int_le int_le))
theorem chk_le : chkW.Le chkK := .pair int_le (.pair str_le (.pair str_le (.pair str_le (.pair int_le (.pair int_le int_le)))))
theorem ent_le : entW.Le entK := .pair str_le (.pair str_le (.pair int_le (.pair int_le (.pair int_le int_le))))
theorem itn_le : itnW.Le itnK := .pair str_le (.pair str_le (.pair (.refl _) (.pair int_le int_le)))
theorem inst_le : instW.Le instK := .pair svc_le int_le
theorem own_le : ownW.Le ownK := .pair (.refl _) (.pair int_le (.pair str_le (.pair (.suchs (.slice svc_le)) (.suchs (.slice chk_le)))))
theorem ans_le : ansW.Le ansK := .pair int_le (.pair int_le (.pair own_le (.pair (.suchs (.slice nod_le)) (.pair (.suchs (.slice inst_le)) (.pair (.suchs (.slice ent_le)) (.suchs (.slice itn_le)))))))
theorem qry_le : qryW.Le qryK := .pair int_le (.pair int_le (.pair str_le (.pair str_le (.pair str_le (.refl _)))))
end Go.Proofs.Ythleagjnhpjhiaa
