/- Contracts of functions of this seat's program. -/
import Derived.Test.YtadpancnhinlbaaETy
import Derived.Test.YtadpancnhinlbaaERn
namespace Go.Proofs.Ytadpancnhinlbaa.E
set_option linter.unusedVariables false
set_option linter.unusedSimpArgs false
set_option maxHeartbeats 1600000
/-! Drawn bytes, drawn chunks. -/
def drawB (l : List Int) : Nat → Int × Int → (Int × Int) × List Int
  | 0, c => (c, [])
  | k + 1, c => let a := drawB l k c; let b := byteC l a.1; (b.1, a.2 ++ [b.2])
theorem drawB_in (l : List Int) (hl : l.length ≤ bound) (c : Int × Int) (h : 0 ≤ c.1) : ∀ k : Nat, 0 ≤ (drawB l k c).1.1 ∧ (drawB l k c).2.length = k ∧ isB (drawB l k c).2
  | 0 => ⟨h, rfl, fun x hx => by cases hx⟩
  | k + 1 => by
    have ih := drawB_in l hl c h k
    have b := byteC_in l hl _ ih.1
    refine ⟨b.1, by simp [drawB, ih.2.1], fun x hx => ?_⟩
    rcases List.mem_append.1 (show x ∈ (drawB l k c).2 ++ [(byteC l (drawB l k c).1).2] from hx) with hx | hx
    · exact ih.2.2 x hx
    · obtain rfl := List.mem_singleton.1 hx
      omega
def bytesC (l : List Int) (c : Int × Int) (m : Int) : (Int × Int) × List Int := drawB l (belowC l c (w64 (m + 1))).2.toNat (belowC l c (w64 (m + 1))).1
theorem bytesC_in (l : List Int) (hl : l.length ≤ bound) (c : Int × Int) (h : 0 ≤ c.1) (m : Int) (hm : 0 ≤ m ∧ m ≤ 100) : 0 ≤ (bytesC l c m).1.1 ∧ ((bytesC l c m).2.length : Int) ≤ m ∧ isB (bytesC l c m).2 := by
  have a := belowC_in l hl c h (w64 (m + 1))
  have e : w64 (m + 1) = m + 1 := w64_id (by omega) (by omega)
  rw [e] at a
  have a3 := a.2.2 (by omega)
  have b := drawB_in l hl _ a.1 (belowC l c (m + 1)).2.toNat
  unfold bytesC
  rw [e]
  exact ⟨b.1, by rw [b.2.1]; omega, b.2.2⟩
theorem s_l01Bytes (l : List Int) (hl : l.length ≤ bound) (c : Int × Int) (h : 0 ≤ c.1) (m : Int) (hm : 0 ≤ m ∧ m ≤ 100) : SpecP Try.prog 51 (curT l c) (curT l (bytesC l c m).1) [T.int m] [.sl 1 ((bytesC l c m).2.map T.u8)] := by
  have a := belowC_in l hl c h (w64 (m + 1))
  have s := s_l01Below l hl c h (w64 (m + 1))
  have e : w64 (m + 1) = m + 1 := w64_id (by omega) (by omega)
  rw [e] at a
  have a3 := a.2.2 (by omega)
  rw [← e] at a a3
  unfold bytesC
  generalize belowC l c (w64 (m + 1)) = a1 at *
  obtain ⟨n, hn⟩ : ∃ n : Nat, n = a1.2.toNat := ⟨_, rfl⟩
  have hn2 : a1.2 = (n : Int) := by omega
  rw [← hn]
  have h0 := a.1
  have hnb : n ≤ 100 := by omega
  refine fnP Try.func51 ?_
  repeat (first | refine brT ?_ | refine brF ?_ | refine And.intro rfl ?_ | refine And.intro trivial ?_ | intro _)
  refine ⟨_, _, s, fun q => ?_⟩
  rw [hn2]
  generalize a1.1 = c1 at *
  repeat (first | refine brT ?_ | refine brF ?_ | refine And.intro rfl ?_ | refine And.intro trivial ?_ | intro _)
  refine ⟨cB [], fun q0 => ?_⟩
  repeat (first | refine brT ?_ | refine brF ?_ | refine And.intro rfl ?_ | refine And.intro trivial ?_ | intro _)
  refine loopI (fun x : Nat × Nat => ⟨25, [(0, .c (.bx 500 0 0)), (5, .int n), (6, .c (.own 13000 x.2)), (7, .int x.1)],
    [(500, .box 0 [.fx 0 1 (l.map T.u8), .v (.int .i64 (drawB l x.1 c1).1.1), .v (.int .i64 (drawB l x.1 c1).1.2)]), (13000, .row x.2 0 1 ((drawB l x.1 c1).2.map T.u8))]⟩) (fun x => n - x.1) (fun x => x.1 ≤ n) (0, q0) (Nat.zero_le _) (wk rfl ⟨rfl, rfl, rfl, rfl, trivial⟩ ⟨rfl, rfl, trivial⟩) ?_
  rintro ⟨i, q⟩ hi
  simp only at hi
  have ib := drawB_in l hl c1 h0 i
  have sb := s_l01Byte l hl _ ib.1
  have bb := byteC_in l hl _ ib.1
  have hrow : (drawB l (i + 1) c1).2.map T.u8 = (drawB l i c1).2.map T.u8 ++ [T.u8 (byteC l (drawB l i c1).1).2] := List.map_append
  refine brD (fun h => ?_) (fun h => ?_)
  · have h : i < n := by omega
    repeat (first | refine brT ?_ | refine brF ?_ | refine And.intro rfl ?_ | refine And.intro trivial ?_ | intro _)
    refine ⟨_, _, sb, fun qe => ?_⟩
    repeat (first | refine brT ?_ | refine brF ?_ | refine And.intro rfl ?_ | refine And.intro trivial ?_ | intro _)
    refine ⟨cB [_], fun qf => ?_⟩
    repeat (first | refine brT ?_ | refine brF ?_ | refine And.intro rfl ?_ | refine And.intro trivial ?_ | intro _)
    refine ⟨by simp [ib.2.1]; unfold bound; omega, fun qg => ?_⟩
    repeat (first | refine brT ?_ | refine brF ?_ | refine And.intro rfl ?_ | refine And.intro trivial ?_ | intro _)
    exact nxt (i + 1, qg) h (by show n - (i + 1) < n - i; omega) (wk rfl ⟨rfl, rfl, rfl, up1 h (by omega), trivial⟩ ⟨rfl, gr rfl (by rw [w8 (by omega) (by omega)]; exact hrow.symm), trivial⟩)
  · have : i = n := by omega
    subst this
    repeat (first | refine brT ?_ | refine brF ?_ | refine And.intro rfl ?_ | refine And.intro trivial ?_ | intro _)
    exact ⟨⟨_, _, rfl⟩, rfl, rfl, trivial⟩
def drawCh (l : List Int) : Nat → Int × Int → (Int × Int) × List Y_Chunk
  | 0, c => (c, [])
  | k + 1, c => let a := drawCh l k c; let b := bytesC l a.1 8; (b.1, a.2 ++ [b.2])
theorem drawCh_in (l : List Int) (hl : l.length ≤ bound) (c : Int × Int) (h : 0 ≤ c.1) : ∀ k : Nat, 0 ≤ (drawCh l k c).1.1 ∧ (drawCh l k c).2.length = k ∧ ∀ d ∈ (drawCh l k c).2, d.length ≤ 8 ∧ isB d
  | 0 => ⟨h, rfl, fun x hx => by cases hx⟩
  | k + 1 => by
    have ih := drawCh_in l hl c h k
    have b := bytesC_in l hl _ ih.1 8 (by omega)
    refine ⟨b.1, by simp [drawCh, ih.2.1], fun x hx => ?_⟩
    rcases List.mem_append.1 (show x ∈ (drawCh l k c).2 ++ [(bytesC l (drawCh l k c).1 8).2] from hx) with hx | hx
    · exact ih.2.2 x hx
    · obtain rfl := List.mem_singleton.1 hx
      exact ⟨by omega, b.2.2⟩
def chunksC (l : List Int) (c : Int × Int) (m : Int) : (Int × Int) × List Y_Chunk := drawCh l (belowC l c (w64 (m + 1))).2.toNat (belowC l c (w64 (m + 1))).1
theorem chunksC_in (l : List Int) (hl : l.length ≤ bound) (c : Int × Int) (h : 0 ≤ c.1) (m : Int) (hm : 0 ≤ m ∧ m ≤ 100) : 0 ≤ (chunksC l c m).1.1 ∧ ((chunksC l c m).2.length : Int) ≤ m ∧ ∀ d ∈ (chunksC l c m).2, d.length ≤ 8 ∧ isB d := by
  have a := belowC_in l hl c h (w64 (m + 1))
  have e : w64 (m + 1) = m + 1 := w64_id (by omega) (by omega)
  rw [e] at a
  have a3 := a.2.2 (by omega)
  have b := drawCh_in l hl _ a.1 (belowC l c (m + 1)).2.toNat
  unfold chunksC
  rw [e]
  exact ⟨b.1, by rw [b.2.1]; omega, b.2.2⟩
theorem s_l02Chunks (l : List Int) (hl : l.length ≤ bound) (c : Int × Int) (h : 0 ≤ c.1) (m : Int) (hm : 0 ≤ m ∧ m ≤ 100) : SpecP Try.prog 31 (curT l c) (curT l (chunksC l c m).1) [T.int m] [.sl 1 ((chunksC l c m).2.map t_Chunk)] := by
  have a := belowC_in l hl c h (w64 (m + 1))
  have s := s_l01Below l hl c h (w64 (m + 1))
  have e : w64 (m + 1) = m + 1 := w64_id (by omega) (by omega)
  rw [e] at a
  have a3 := a.2.2 (by omega)
  rw [← e] at a a3
  unfold chunksC
  generalize belowC l c (w64 (m + 1)) = a1 at *
  obtain ⟨n, hn⟩ : ∃ n : Nat, n = a1.2.toNat := ⟨_, rfl⟩
  have hn2 : a1.2 = (n : Int) := by omega
  rw [← hn]
  have h0 := a.1
  have hnb : n ≤ 100 := by omega
  refine fnP Try.func31 ?_
  repeat (first | refine brT ?_ | refine brF ?_ | refine And.intro rfl ?_ | refine And.intro trivial ?_ | intro _)
  refine ⟨cB [], fun q0 => ?_⟩
  repeat (first | refine brT ?_ | refine brF ?_ | refine And.intro rfl ?_ | refine And.intro trivial ?_ | intro _)
  refine ⟨_, _, s, fun q => ?_⟩
  rw [hn2]
  generalize a1.1 = c1 at *
  repeat (first | refine brT ?_ | refine brF ?_ | refine And.intro rfl ?_ | refine And.intro trivial ?_ | intro _)
  refine loopI (fun x : Nat × Nat => ⟨23, [(0, .c (.bx 500 0 0)), (5, .c (.own 8000 x.2)), (6, .int ((n : Int) - x.1))],
    [(500, .box 0 [.fx 0 1 (l.map T.u8), .v (.int .i64 (drawCh l x.1 c1).1.1), .v (.int .i64 (drawCh l x.1 c1).1.2)]), (8000, .row x.2 0 1 ((drawCh l x.1 c1).2.map t_Chunk))]⟩) (fun x => n - x.1) (fun x => x.1 ≤ n) (0, q0) (Nat.zero_le _) (wk rfl ⟨rfl, rfl, gi rfl (by simp), trivial⟩ ⟨rfl, rfl, trivial⟩) ?_
  rintro ⟨i, q⟩ hi
  simp only at hi
  have ib := drawCh_in l hl c1 h0 i
  have sb := s_l01Bytes l hl _ ib.1 8 (by omega)
  have hrow : (drawCh l (i + 1) c1).2.map t_Chunk = (drawCh l i c1).2.map t_Chunk ++ [t_Chunk (bytesC l (drawCh l i c1).1 8).2] := List.map_append
  refine brD (fun h => ?_) (fun h => ?_)
  · have h : i < n := by have h' : (n : Int) - (i : Int) > 0 := h; omega
    repeat (first | refine brT ?_ | refine brF ?_ | refine And.intro rfl ?_ | refine And.intro trivial ?_ | intro _)
    refine ⟨_, _, sb, fun qe => ?_⟩
    repeat (first | refine brT ?_ | refine brF ?_ | refine And.intro rfl ?_ | refine And.intro trivial ?_ | intro _)
    refine ⟨fun t ht => (by simp at ht; subst ht; rfl), fun qf => ?_⟩
    repeat (first | refine brT ?_ | refine brF ?_ | refine And.intro rfl ?_ | refine And.intro trivial ?_ | intro _)
    refine ⟨by simp [ib.2.1]; unfold bound; omega, fun qg => ?_⟩
    repeat (first | refine brT ?_ | refine brF ?_ | refine And.intro rfl ?_ | refine And.intro trivial ?_ | intro _)
    refine nxt (i + 1, qg) h (by show n - (i + 1) < n - i; omega) (wk rfl ⟨rfl, rfl, congrArg AV.int ?_, trivial⟩ ⟨rfl, gr rfl hrow.symm, trivial⟩)
    show w64 ((n : Int) - (i : Int) - 1) = (n : Int) - ((i + 1 : Nat) : Int)
    rw [w64_id (by omega) (by omega)]; omega
  · have : i = n := by have h' : ¬ (n : Int) - (i : Int) > 0 := h; omega
    subst this
    repeat (first | refine brT ?_ | refine brF ?_ | refine And.intro rfl ?_ | refine And.intro trivial ?_ | intro _)
    exact ⟨⟨_, _, rfl⟩, rfl, rfl, trivial⟩
def makeCh (l : List Int) : List Y_Chunk := (chunksC l (0, hsB l (min l.length 4000)) 5).2
theorem makeCh_in (l : List Int) (hl : l.length ≤ bound) : (makeCh l).length ≤ 5 ∧ ∀ d ∈ makeCh l, d.length ≤ 8 ∧ isB d := by
  have := chunksC_in l hl (0, hsB l (min l.length 4000)) (Int.le_refl _) 5 (by omega)
  refine ⟨?_, this.2.2⟩
  have h := this.2.1
  unfold makeCh
  omega
theorem s_MakeChunks (l : List Int) (hl : l.length ≤ bound) : Spec Try.prog 7 [.ro (.sl 1 (l.map T.u8))] [.sl 1 ((makeCh l).map t_Chunk)] := by
  have sn := s_l01New l hl
  have sd := s_l02Chunks l hl (0, hsB l (min l.length 4000)) (Int.le_refl _) 5 (by omega)
  refine fn Try.func7 ?_
  repeat (first | refine brT ?_ | refine brF ?_ | refine And.intro rfl ?_ | refine And.intro trivial ?_ | intro _)
  refine ⟨_, sn, ?_⟩
  repeat (first | refine brT ?_ | refine brF ?_ | refine And.intro rfl ?_ | refine And.intro trivial ?_ | intro _)
  refine ⟨_, _, sd, fun q => ?_⟩
  repeat (first | refine brT ?_ | refine brF ?_ | refine And.intro rfl ?_ | refine And.intro trivial ?_ | intro _)
  exact rfl
def makeNum (l : List Int) (n : Int) : Int := (belowC l (0, w64 (hsB l (min l.length 4000) + 777)) n).2
theorem makeNum_in (l : List Int) (hl : l.length ≤ bound) (n : Int) (h : 0 < n) : 0 ≤ makeNum l n ∧ makeNum l n < n := by
  have := belowC_in l hl (0, w64 (hsB l (min l.length 4000) + 777)) (Int.le_refl _) n
  exact ⟨this.2.1, this.2.2 h⟩
theorem s_MakeNum (l : List Int) (hl : l.length ≤ bound) (n : Int) : Spec Try.prog 11 [.ro (.sl 1 (l.map T.u8)), .ro (T.int n)] [T.int (makeNum l n)] := by
  have sn := s_l01New l hl
  have sd := s_l01Below l hl (0, w64 (hsB l (min l.length 4000) + 777)) (Int.le_refl _) n
  refine fn Try.func11 ?_
  repeat (first | refine brT ?_ | refine brF ?_ | refine And.intro rfl ?_ | refine And.intro trivial ?_ | intro _)
  refine ⟨_, sn, ?_⟩
  repeat (first | refine brT ?_ | refine brF ?_ | refine And.intro rfl ?_ | refine And.intro trivial ?_ | intro _)
  refine ⟨_, _, sd, fun q => ?_⟩
  repeat (first | refine brT ?_ | refine brF ?_ | refine And.intro rfl ?_ | refine And.intro trivial ?_ | intro _)
  exact rfl
theorem i_Whole (b : List Int) (hb : isB b) (hl : b.length ≤ bound) : Spec Try.prog 10 [.ro (.sl 1 (b.map T.u8))] [T.bool (decide ((scan b).2.2 = 0))] := by
  refine fn Try.func10 ?_
  repeat (first | refine brT ?_ | refine brF ?_ | refine And.intro rfl ?_ | refine And.intro trivial ?_ | intro _)
  refine ⟨_, i_Scan b hb hl, ?_⟩
  repeat (first | refine brT ?_ | refine brF ?_ | refine And.intro rfl ?_ | refine And.intro trivial ?_ | intro _)
  exact rfl


end Go.Proofs.Ytadpancnhinlbaa.E
