/- What an argument that can be read as data says as a tree: whole numbers, bools, strings, slices, structs. Nothing here speaks of the program. -/
import Derived.Test.YtadpancnhinlbaaEFn
import Derived.ChangeOld
import Derived.OpenShut
import Derived.ShutString
namespace Go.Proofs.Ytadpancnhinlbaa.E
set_option linter.unusedVariables false
set_option linter.unusedSimpArgs false
open Go.ChangeShapes Go.WideShapes

def RdC (w : World) (ts : List T) (cs : List Value) : Prop := cs.length = ts.length ∧ ∀ j c, ts[j]? = some c → Rd w (fun b => b < w.heap.size ∧ ¬ False) c (cs.getD j undef)
theorem rdC_one {w : World} {t : T} {x : Value} (h : Rd w (fun b => b < w.heap.size ∧ ¬ False) t x) : RdC w [t] [x] := ⟨rfl, fun j c hj => by
  cases j with
  | zero => simp at hj; subst hj; exact h
  | succ j => simp at hj⟩
theorem rdC_append {w : World} {l r : List T} {xs ys : List Value} (h : RdC w l xs) (k : RdC w r ys) : RdC w (l ++ r) (xs ++ ys) := by
  refine ⟨by simp [h.1, k.1], fun j c hj => ?_⟩
  by_cases hlt : j < l.length
  · rw [List.getElem?_append_left hlt] at hj
    have := h.2 j c hj
    rwa [List.getD_eq_getElem?_getD, List.getElem?_append_left (by rw [h.1]; exact hlt), ← List.getD_eq_getElem?_getD]
  · rw [List.getElem?_append_right (by omega)] at hj
    have := k.2 _ c hj
    rw [List.getD_eq_getElem?_getD, List.getElem?_append_right (by rw [h.1]; omega), ← List.getD_eq_getElem?_getD, h.1]
    exact this
/-- Whatever is read as data at type t is the tree of some a, and G holds of it. -/
structure Op1 {α : Type} (P : Program) (t : TypeId) (n : Nat) (c : α → T) (G : α → Prop) : Prop where
  sz : P.cellsOf t = n
  len : ∀ a, (c a).cells.length = n
  opn : ∀ {H : Type} (enc : TypeId × Value → H) (w : World) (fuel : Nat) (cs : List Value) (x : DataW H × List MemPlace),
    DataW.trod enc P w 0 (fun _ => true) true fuel t cs = some x → ∃ a, RdC w (c a).cells cs ∧ G a
structure OpAt {α : Type} (P : Program) (fs : List (Nat × TypeId)) (o n : Nat) (c : α → List T) (G : α → Prop) : Prop where
  len : ∀ a, (c a).length = n
  opn : ∀ {H : Type} (enc : TypeId × Value → H) (w : World) (m : Nat) (cs : List Value),
    (∀ f ∈ fs, ∃ x, DataW.trod enc P w 0 (fun _ => true) true m f.2 ((cs.drop f.1).take (P.cellsOf f.2)) = some x) → cs.length = o + n → ∃ a, RdC w (c a) (cs.drop o) ∧ G a
section
variable {P : Program} {α β : Type} {t e : TypeId} {n n' : Nat} {c : α → T} {G : α → Prop} {c' : β → List T} {G' : β → Prop}
theorem Op1.int {k : IntKind} (ht : P.underlying t = some (.int k)) (hc : P.cellsOf t = 1) : Op1 P t 1 (fun n : Int => T.v (.int k n)) (fun n => (Lit.int k n).wf = true) where
  sz := hc
  len _ := rfl
  opn enc w fuel cs x h := by
    obtain ⟨n, rfl, _, hw⟩ := DataW.trod_int ht h
    exact ⟨n, rdC_one (.v rfl), hw⟩
theorem Op1.bool (ht : P.underlying t = some .bool) (hc : P.cellsOf t = 1) : Op1 P t 1 T.bool (fun _ => True) where
  sz := hc
  len _ := rfl
  opn enc w fuel cs x h := by
    obtain ⟨b, rfl, _⟩ := DataW.trod_bool ht h
    exact ⟨b, rdC_one (.v rfl), trivial⟩
theorem Op1.string (ht : P.underlying t = some .string) (hc : P.cellsOf t = 1) : Op1 P t 1 T.str (fun s => s.size ≤ maxLen) where
  sz := hc
  len _ := rfl
  opn enc w fuel cs x h := by
    obtain ⟨s, rfl, _, hs⟩ := DataW.trod_string ht h
    exact ⟨s, rdC_one (.v rfl), hs⟩
/-- One choice for each place of a list. -/
theorem choose_list {Q : Nat → α → Prop} : ∀ (n : Nat), (∀ i, i < n → ∃ a, Q i a) → ∃ l : List α, l.length = n ∧ ∀ i a, l[i]? = some a → Q i a
  | 0, _ => ⟨[], rfl, fun i a h => by simp at h⟩
  | n + 1, h => by
    obtain ⟨l, hl, hq⟩ := choose_list n (fun i hi => h i (by omega))
    obtain ⟨a, ha⟩ := h n (by omega)
    refine ⟨l ++ [a], by simp [hl], fun i b hb => ?_⟩
    by_cases hi : i < l.length
    · rw [List.getElem?_append_left hi] at hb
      exact hq i b hb
    · have hlt : i < (l ++ [a]).length := (List.getElem?_eq_some_iff.1 hb).1
      have : i = l.length := by simp at hlt; omega
      subst this
      have : a = b := by simpa using hb
      subst this
      rw [hl]
      exact ha
theorem flat_at {n : Nat} : ∀ {es : List T}, (∀ t ∈ es, t.cells.length = n) → ∀ j ct, (flat es)[j]? = some ct → 0 < n ∧ ∃ t, es[j / n]? = some t ∧ t.cells[j % n]? = some ct
  | [], _, j, ct, h => by simp [flat] at h
  | t :: r, hl, j, ct, h => by
    have ht := hl t List.mem_cons_self
    have hf : flat (t :: r) = t.cells ++ flat r := rfl
    rw [hf] at h
    by_cases hj : j < t.cells.length
    · rw [List.getElem?_append_left hj] at h
      have hn : 0 < n := by omega
      exact ⟨hn, t, by rw [Nat.div_eq_of_lt (by omega)]; rfl, by rw [Nat.mod_eq_of_lt (by omega)]; exact h⟩
    · rw [List.getElem?_append_right (by omega)] at h
      obtain ⟨hn, u, hu, hc⟩ := flat_at (fun x hx => hl x (List.mem_cons_of_mem _ hx)) _ ct h
      rw [ht] at hu hc
      refine ⟨hn, u, ?_, ?_⟩
      · rw [Nat.div_eq_sub_div hn (by omega)]; exact hu
      · rw [Nat.mod_eq_sub_mod (by omega)]; exact hc
theorem cell_lt {w : World} {a : Addr} {u : Value} (h : w.cell? a = some u) : a.block < w.heap.size := by
  simp only [World.cell?] at h
  cases hb : w.heap[a.block]? with
  | none => rw [hb] at h; simp at h
  | some o => exact (Array.getElem?_eq_some_iff.1 hb).1
theorem Op1.slice (ht : P.underlying t = some (.slice e)) (hc : P.cellsOf t = 1) (hn0 : 0 < n) (h : Op1 P e n c G) : Op1 P t 1 (fun l : List α => T.sl n (l.map c)) (fun xs => xs.length ≤ maxLen ∧ ∀ x ∈ xs, G x) where
  sz := hc
  len _ := rfl
  opn enc w fuel cs x hx := by
    rcases DataW.trod_slice ht hx with ⟨rfl, _⟩ | ⟨a, len, cap, elems, rest, m, _, rfl, _, _, hl, hm, hlen, hel, _, _⟩
    · exact ⟨[], rdC_one .nil, by simp, by simp⟩
    · have each : ∀ i, i < len → ∃ y : α, (∃ vs : List Value, vs.length = n ∧ RdC w (c y).cells vs ∧ ∀ j u, vs[j]? = some u → w.cell? (a.add (i * n + j)) = some u) ∧ G y := by
        intro i hi
        have h1 := hel i hi
        have h2 : i < elems.length := by omega
        rw [List.getElem?_eq_getElem h2, Option.bind_eq_some_iff] at h1
        obtain ⟨vs, hcs, hy⟩ := h1
        obtain ⟨y, hk, hg⟩ := h.opn enc w m vs _ hy
        rw [h.sz] at hcs
        obtain ⟨_, hcl, hcc⟩ := World.cells?_some hcs
        refine ⟨y, ⟨vs, hcl, hk, fun j u hu => ?_⟩, hg⟩
        have hj : j < n := by
          have := (List.getElem?_eq_some_iff.1 hu).1
          omega
        rw [← add_add, hcc j hj, hu]
      obtain ⟨xs, hxl, hxs⟩ := choose_list len each
      refine ⟨xs, rdC_one ?_, ⟨by omega, fun y hy => ?_⟩⟩
      · have hcl : ∀ t ∈ xs.map c, t.cells.length = n := fun t ht => by
          obtain ⟨y, _, rfl⟩ := List.mem_map.1 ht; exact h.len y
        by_cases h0 : len = 0
        · subst h0
          have : xs = [] := List.eq_nil_of_length_eq_zero hxl
          subst this
          exact .nil
        have at_ : ∀ j ct, (flat (xs.map c))[j]? = some ct → ∃ u, w.cell? (a.add j) = some u ∧ Rd w (fun b => b < w.heap.size ∧ ¬ False) ct u := fun j ct hj => by
          obtain ⟨hn, t, ht1, ht2⟩ := flat_at hcl j ct hj
          rw [List.getElem?_map, Option.map_eq_some_iff] at ht1
          obtain ⟨y, hy, rfl⟩ := ht1
          obtain ⟨⟨vs, hv1, hv2, hv3⟩, _⟩ := hxs _ y hy
          have hlt : j % n < vs.length := by rw [hv1]; exact Nat.mod_lt _ hn
          have h3 := hv3 _ _ (List.getElem?_eq_getElem hlt)
          have h4 := hv2.2 _ _ ht2
          rw [show j / n * n + j % n = j by rw [Nat.mul_comm]; exact Nat.div_add_mod j n] at h3
          refine ⟨_, h3, ?_⟩
          rwa [List.getD_eq_getElem?_getD, List.getElem?_eq_getElem hlt] at h4
        have hfl := flat_len hcl
        have h1 : 0 < (flat (xs.map c)).length := by
          rw [hfl, List.length_map, hxl]; exact Nat.mul_pos (by omega) (by omega)
        obtain ⟨u0, hu0, _⟩ := at_ 0 _ (List.getElem?_eq_getElem h1)
        have hb : a.block < w.heap.size := by
          have : (a.add 0).block = a.block := add_block a 0
          rw [← this]
          exact cell_lt hu0
        have hmk : (T.sl n (xs.map c)) = .sl n (xs.map c) := rfl
        have hsl : Value.slice (some a) len cap = .slice (some a) (xs.map c).length cap := by rw [List.length_map, hxl]
        rw [hsl]
        refine .row (u := fun j => (w.cell? (a.add j)).getD undef) (by rw [List.length_map]; omega) ⟨hb, fun h => h⟩ hcl (fun j ct hj => ?_) (fun j ct hj => ?_)
        · obtain ⟨u, h1, _⟩ := at_ j ct hj; rw [h1]; rfl
        · obtain ⟨u, h1, h2⟩ := at_ j ct hj; rw [h1]; exact h2
      · obtain ⟨i, hi⟩ := List.getElem?_of_mem hy
        exact (hxs i y hi).2
theorem OpAt.last {o : Nat} (h : Op1 P t n c G) : OpAt P [(o, t)] o n (fun a => (c a).cells) G where
  len := h.len
  opn enc w m cs hf hl := by
    obtain ⟨x, hx⟩ := hf _ List.mem_cons_self
    obtain ⟨a, hk, hg⟩ := h.opn enc w m _ _ hx
    rw [h.sz, List.take_of_length_le (by rw [List.length_drop]; omega)] at hk
    exact ⟨a, hk, hg⟩
theorem OpAt.cons {o o' : Nat} {fs : List (Nat × TypeId)} (h : Op1 P t n c G) (ho : o + n = o') (hr : OpAt P fs o' n' c' G') : OpAt P ((o, t) :: fs) o (n + n') (fun x : α × β => (c x.1).cells ++ c' x.2) (fun x => G x.1 ∧ G' x.2) where
  len x := by rw [List.length_append, h.len, hr.len]
  opn enc w m cs hf hl := by
    subst ho
    obtain ⟨x, hx⟩ := hf _ List.mem_cons_self
    obtain ⟨a, hk, hg⟩ := h.opn enc w m _ _ hx
    obtain ⟨b, hk', hg'⟩ := hr.opn enc w m cs (fun f hf' => hf f (List.mem_cons_of_mem _ hf')) (by omega)
    rw [h.sz] at hk
    refine ⟨(a, b), ?_, hg, hg'⟩
    have : cs.drop o = List.take n (List.drop o cs) ++ List.drop (o + n) cs := by rw [← List.drop_drop, List.take_append_drop]
    rw [this]
    exact rdC_append hk hk'
theorem Op1.struct {c : α → List T} {fs : Array Field} (ht : P.underlying t = some (.struct fs)) (hc : P.cellsOf t = n) (fl : List (Nat × TypeId)) (hfl : fs.toList.map (fun f => (f.offset, f.type)) = fl) (h : OpAt P fl 0 n c G) : Op1 P t n (fun a => T.agg (c a)) G where
  sz := hc
  len := h.len
  opn enc w fuel cs x hx := by
    subst hfl
    obtain ⟨xs, m, _, _, hl, hsz, hf⟩ := DataW.trod_struct ht hx
    obtain ⟨a, hk, hg⟩ := h.opn enc w m cs (fun f hm => by
      obtain ⟨g, hg, rfl⟩ := List.mem_map.1 hm
      obtain ⟨i, hi⟩ := List.getElem?_of_mem hg
      have hlt := (List.getElem?_eq_some_iff.1 hi).1
      have hlt' : i < xs.length := by rw [hsz]; simpa using hlt
      exact ⟨xs[i], by rw [hf i g (by simpa using hi)]; exact List.getElem?_eq_getElem hlt'⟩) (by omega)
    exact ⟨a, hk, hg⟩
end
end Go.Proofs.Ytadpancnhinlbaa.E
