/- What an argument that can be read as data holds, told in the kinds of the printed words: whole numbers, bools, strings, slices, structs. Nothing here speaks of the program. -/
import Derived.Test.YtnhbbjpdhoojeaaWWords
import Derived.ChangeOld
import Derived.OpenShut
import Derived.ShutString
namespace Go.Proofs.Ytnhbbjpdhoojeaa.Opn
open Go.Proofs.YtnhbbjpdhoojeaaW.PrintWords Go.ChangeShapes Go.WideShapes

theorem add_add (a : Addr) (m i : Nat) : (a.add m).add i = a.add (m + i) := by
  unfold Addr.add
  split <;> split <;> simp_all <;> omega

/-- Whatever is read as data at type t is told by the kind d, and G holds of it. -/
structure Opens {α : Type} (P : Program) (d : Kd α) (t : TypeId) (G : α → Prop) : Prop where
  sz : P.cellsOf t = d.sz
  opn : ∀ {H : Type} (enc : TypeId × Value → H) (w : World) (fuel : Nat) (cs : List Value) (x : DataW H × List MemPlace),
    DataW.trod enc P w 0 (fun _ => true) true fuel t cs = some x → ∃ a, d.K w a cs ∧ G a

section
variable {P : Program} {α β : Type} {t e : TypeId} {d : Kd α} {d' : Kd β} {G : α → Prop} {G' : β → Prop}

theorem Opens.int {k : IntKind} (ht : P.underlying t = some (.int k)) (hc : P.cellsOf t = 1) : Opens P (Kd.int k) t (fun n => (Lit.int k n).wf = true) where
  sz := hc
  opn enc w fuel cs x h := by
    obtain ⟨n, rfl, _, hw⟩ := DataW.trod_int ht h
    exact ⟨n, rfl, hw⟩
theorem Opens.bool (ht : P.underlying t = some .bool) (hc : P.cellsOf t = 1) : Opens P Kd.bool t (fun _ => True) where
  sz := hc
  opn enc w fuel cs x h := by
    obtain ⟨b, rfl, _⟩ := DataW.trod_bool ht h
    exact ⟨b, rfl, trivial⟩
theorem Opens.string (ht : P.underlying t = some .string) (hc : P.cellsOf t = 1) : Opens P Kd.string t (fun s => s.size ≤ maxLen) where
  sz := hc
  opn enc w fuel cs x h := by
    obtain ⟨s, rfl, _, hs⟩ := DataW.trod_string ht h
    exact ⟨s, rfl, hs⟩
/-- One choice for each place of a list. -/
theorem choose_list {Q : Nat → α → Prop} : ∀ (n : Nat), (∀ i, i < n → ∃ a, Q i a) → ∃ l : List α, l.length = n ∧ ∀ i a, l[i]? = some a → Q i a
  | 0, _ => ⟨[], rfl, fun i a h => by simp at h⟩
  | n + 1, h => by
    obtain ⟨l, hl, hq⟩ := choose_list n (fun i hi => h i (by omega))
    obtain ⟨a, ha⟩ := h n (by omega)
    refine ⟨l ++ [a], by simp [hl], fun i b hb => ?_⟩
    by_cases hi : i < l.length
    · rw [List.getElem?_append_left hi] at hb
      exact hq i b hb
    · have hlt : i < (l ++ [a]).length := (List.getElem?_eq_some_iff.1 hb).1
      have : i = l.length := by simp at hlt; omega
      subst this
      have : a = b := by simpa using hb
      subst this
      rw [hl]
      exact ha
theorem Opens.slice (ht : P.underlying t = some (.slice e)) (hc : P.cellsOf t = 1) (h : Opens P d e G) : Opens P (Kd.slice e d) t (fun xs => xs.length ≤ maxLen ∧ ∀ x ∈ xs, G x) where
  sz := hc
  opn enc w fuel cs x hx := by
    rcases DataW.trod_slice ht hx with ⟨rfl, _⟩ | ⟨a, len, cap, elems, rest, n, _, rfl, _, _, hl, hm, hlen, hel, _, _⟩
    · refine ⟨[], ⟨none, 0, rfl, Nat.le_refl 0, rfl, by simp, fun h => absurd h (by simp)⟩, by simp, by simp⟩
    · have each : ∀ i, i < len → ∃ y : α, (∃ c, c.length = d.sz ∧ d.K w y c ∧ ∀ j u, c[j]? = some u → w.cell? (a.add (i * d.sz + j)) = some u) ∧ G y := by
        intro i hi
        have h1 := hel i hi
        have h2 : i < elems.length := by omega
        rw [List.getElem?_eq_getElem h2, Option.bind_eq_some_iff] at h1
        obtain ⟨c, hcs, hy⟩ := h1
        obtain ⟨y, hk, hg⟩ := h.opn enc w n c _ hy
        rw [h.sz] at hcs
        obtain ⟨_, hcl, hcc⟩ := World.cells?_some hcs
        refine ⟨y, ⟨c, hcl, hk, fun j u hu => ?_⟩, hg⟩
        have hj : j < d.sz := by
          have := (List.getElem?_eq_some_iff.1 hu).1
          omega
        rw [← add_add, hcc j hj, hu]
      obtain ⟨xs, hxl, hxs⟩ := choose_list len each
      refine ⟨xs, ⟨some a, cap, by rw [hxl], by omega, rfl, ?_, fun _ => ⟨a, rfl, fun j p hp => (hxs j p hp).1⟩⟩, by omega, fun y hy => ?_⟩
      · unfold maxLen at hm
        omega
      · obtain ⟨i, hi⟩ := List.getElem?_of_mem hy
        exact (hxs i y hi).2
end

/-- The fields of a struct from one offset on. -/
structure OpensAt {α : Type} (P : Program) (d : Kd α) (fs : List (Nat × TypeId)) (o : Nat) (G : α → Prop) : Prop where
  opn : ∀ {H : Type} (enc : TypeId × Value → H) (w : World) (n : Nat) (cs : List Value),
    (∀ f ∈ fs, ∃ x, DataW.trod enc P w 0 (fun _ => true) true n f.2 ((cs.drop f.1).take (P.cellsOf f.2)) = some x) → cs.length = o + d.sz → ∃ a, d.K w a (cs.drop o) ∧ G a

section
variable {P : Program} {α β : Type} {t e : TypeId} {d : Kd α} {d' : Kd β} {G : α → Prop} {G' : β → Prop}
theorem OpensAt.last {o : Nat} (h : Opens P d t G) : OpensAt P d [(o, t)] o G where
  opn enc w n cs hf hl := by
    obtain ⟨x, hx⟩ := hf _ List.mem_cons_self
    obtain ⟨a, hk, hg⟩ := h.opn enc w n _ _ hx
    rw [h.sz, List.take_of_length_le (by rw [List.length_drop]; omega)] at hk
    exact ⟨a, hk, hg⟩
theorem OpensAt.cons {o o' : Nat} {fs : List (Nat × TypeId)} (h : Opens P d t G) (ho : o + d.sz = o') (hr : OpensAt P d' fs o' G') : OpensAt P (Kd.pair d d') ((o, t) :: fs) o (fun x => G x.1 ∧ G' x.2) where
  opn enc w n cs hf hl := by
    subst ho
    have hl' : cs.length = o + (d.sz + d'.sz) := hl
    obtain ⟨x, hx⟩ := hf _ List.mem_cons_self
    obtain ⟨a, hk, hg⟩ := h.opn enc w n _ _ hx
    obtain ⟨b, hk', hg'⟩ := hr.opn enc w n cs (fun f hf' => hf f (List.mem_cons_of_mem _ hf')) (by omega)
    rw [h.sz] at hk
    refine ⟨(a, b), ⟨_, _, ?_, hk, hk'⟩, hg, hg'⟩
    show cs.drop o = List.take d.sz (List.drop o cs) ++ List.drop (o + d.sz) cs
    rw [← List.drop_drop, List.take_append_drop]
theorem Opens.struct {fs : Array Field} (ht : P.underlying t = some (.struct fs)) (hc : P.cellsOf t = d.sz) (fl : List (Nat × TypeId)) (hfl : fs.toList.map (fun f => (f.offset, f.type)) = fl) (h : OpensAt P d fl 0 G) : Opens P d t G where
  sz := hc
  opn enc w fuel cs x hx := by
    subst hfl
    obtain ⟨xs, n, _, _, hl, hsz, hf⟩ := DataW.trod_struct ht hx
    obtain ⟨a, hk, hg⟩ := h.opn enc w n cs (fun f hm => by
      obtain ⟨g, hg, rfl⟩ := List.mem_map.1 hm
      obtain ⟨i, hi⟩ := List.getElem?_of_mem hg
      have hlt := (List.getElem?_eq_some_iff.1 hi).1
      have hlt' : i < xs.length := by rw [hsz]; simpa using hlt
      exact ⟨xs[i], by rw [hf i g (by simpa using hi)]; exact List.getElem?_eq_getElem hlt'⟩) (by omega)
    exact ⟨a, by simpa using hk, hg⟩
/-- A Lean structure by its fields: f takes it apart, g puts it together. -/
theorem Opens.iso {f : β → α} (g : α → β) (hfg : ∀ a, f (g a) = a) (h : Opens P d t G) : Opens P (Kd.iso d f) t (fun b => G (f b)) where
  sz := h.sz
  opn enc w fuel cs x hx := by
    obtain ⟨a, hk, hg⟩ := h.opn enc w fuel cs x hx
    exact ⟨g a, by show d.K w (f (g a)) cs; rw [hfg]; exact hk, by rw [hfg]; exact hg⟩
end
end Go.Proofs.Ytnhbbjpdhoojeaa.Opn
