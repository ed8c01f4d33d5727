/- Contracts of functions of this seat's program. -/
import Derived.Test.YtiphlkclkieanaaETy
import Derived.Test.YtiphlkclkieanaaEPu
namespace Go.Proofs.Ytiphlkclkieanaa.E
set_option linter.unusedVariables false
set_option maxHeartbeats 1600000
def hdr1 (n : Int) (d : List Int) : List Int := ([82] ++ putB n 3) ++ putB d.length 3
def hdr2 (n : Int) (d : List Int) : List Int := hdr1 n d ++ putB (crcOf (hdr1 n d)) 4
def hdr3 (n : Int) (d : List Int) : List Int := hdr2 n d ++ putB (crcOf d) 4
def frameB (n : Int) (d : List Int) : List Int × Bool := if n < 0 ∨ n > 100000 ∨ (d.length : Int) > 4000 then ([], false) else (hdr3 n d ++ d, true)
theorem isB_app {a b : List Int} (h : isB a) (h2 : isB b) : isB (a ++ b) := fun x hx => by
  rcases List.mem_append.1 hx with hx | hx
  · exact h x hx
  · exact h2 x hx
theorem hdr1_B (n : Int) (d : List Int) : isB (hdr1 n d) := isB_app (isB_app (fun x hx => by simp at hx; omega) (putB_isB _ _)) (putB_isB _ _)
theorem hdr1_len (n : Int) (d : List Int) : (hdr1 n d).length = 7 := by simp [hdr1, putB_len]
theorem hdr3_len (n : Int) (d : List Int) : (hdr3 n d).length = 15 := by simp [hdr3, hdr2, hdr1_len, putB_len]
theorem frameB_len (n : Int) (d : List Int) : (frameB n d).1.length ≤ d.length + 15 := by
  unfold frameB
  split
  · simp
  · simp [hdr3_len]; omega
theorem hdr3_B (n : Int) (d : List Int) : isB (hdr3 n d) := isB_app (isB_app (hdr1_B n d) (putB_isB _ _)) (putB_isB _ _)
theorem frameB_B {n : Int} {d : List Int} (h : isB d) : isB (frameB n d).1 := by
  unfold frameB
  split
  · exact fun x hx => by cases hx
  · exact isB_app (hdr3_B n d) h
theorem s_FrameBytes (n : Int) (d : List Int) (hb : isB d) (hl : d.length ≤ bound) : Spec Try.prog 23 [.ro (T.int n), .ro (.sl 1 (d.map T.u8))] [.sl 1 ((frameB n d).1.map T.u8), T.bool (frameB n d).2] := by
  have hl' : d.length ≤ 16777216 := hl
  refine fn Try.func23 ?_
  by_cases h0 : n < 0 ∨ n > 100000 ∨ (d.length : Int) > 4000
  · have e : frameB n d = ([], false) := if_pos h0
    rw [e]
    repeat' (first | (first | refine brT ?_ | refine brF ?_ | refine And.intro rfl ?_ | refine And.intro trivial ?_ | intro _) | refine brI (fun _ => ?_) (fun _ => ?_))
    all_goals first
      | (exfalso; simp_all; omega)
      | exact ⟨1, rfl⟩
  have e : frameB n d = (hdr3 n d ++ d, true) := if_neg h0
  rw [e]
  have r1 := crcOf_range (hdr1_B n d)
  have r2 := crcOf_range hb
  have k1 := hdr1_len n d
  have cp := s_l02Put ([82] ++ putB n 3) d.length 3 (by omega) (by omega) (by decide) (by simp [putB_len]; decide)
  have el : (d.map T.u8).length = d.length := List.length_map ..
  rw [show ([82] ++ putB n 3) ++ putB (d.length : Int) 3 = hdr1 n d from rfl, ← el] at cp
  have ee : (hdr3 n d).map T.u8 ++ d.map T.u8 = (hdr3 n d ++ d).map T.u8 := (List.map_append ..).symm
  repeat (first | (first | refine brT ?_ | refine brF ?_ | refine And.intro rfl ?_ | refine And.intro trivial ?_ | intro _) | (refine brL ?a (fun _ => ?_); case a => (simp <;> omega)))
  refine ⟨cB [82], fun q0 => ?_⟩
  repeat (first | refine brT ?_ | refine brF ?_ | refine And.intro rfl ?_ | refine And.intro trivial ?_ | intro _)
  refine ⟨_, s_l02Put [82] n 3 (by omega) (by omega) (by decide) (by decide), ?_⟩
  repeat (first | refine brT ?_ | refine brF ?_ | refine And.intro rfl ?_ | refine And.intro trivial ?_ | intro _)
  refine ⟨_, cp, ?_⟩
  repeat (first | refine brT ?_ | refine brF ?_ | refine And.intro rfl ?_ | refine And.intro trivial ?_ | intro _)
  refine ⟨_, s_Crc (hdr1 n d) (hdr1_B n d) (by rw [k1]; decide), ?_⟩
  repeat (first | refine brT ?_ | refine brF ?_ | refine And.intro rfl ?_ | refine And.intro trivial ?_ | intro _)
  refine ⟨_, s_l02Put (hdr1 n d) (crcOf (hdr1 n d)) 4 r1.1 (by omega) (by decide) (by rw [k1]; decide), ?_⟩
  repeat (first | refine brT ?_ | refine brF ?_ | refine And.intro rfl ?_ | refine And.intro trivial ?_ | intro _)
  refine ⟨_, s_Crc d hb hl, ?_⟩
  repeat (first | refine brT ?_ | refine brF ?_ | refine And.intro rfl ?_ | refine And.intro trivial ?_ | intro _)
  refine ⟨_, s_l02Put (hdr2 n d) (crcOf d) 4 r2.1 (by omega) (by decide) (by simp [hdr2, k1, putB_len]; decide), ?_⟩
  repeat (first | refine brT ?_ | refine brF ?_ | refine And.intro rfl ?_ | refine And.intro trivial ?_ | intro _)
  refine ⟨vB, by have := hdr3_len n d; simp only [hdr3] at this; rw [List.length_map, List.length_map, this]; unfold bound; omega, fun q1 => ?_⟩
  repeat (first | refine brT ?_ | refine brF ?_ | refine And.intro rfl ?_ | refine And.intro trivial ?_ | intro _)
  exact congrArg (fun z => [T.sl 1 z, T.bool true]) ee
theorem i_FrameBytes (n : Int) (d : List Int) (hb : isB d) (hl : d.length ≤ bound) : Spec Try.prog 25 [.ro (T.int n), .ro (.sl 1 (d.map T.u8))] [.sl 1 ((frameB n d).1.map T.u8), T.bool (frameB n d).2] := by
  have hl' : d.length ≤ 16777216 := hl
  refine fn Try.func25 ?_
  by_cases h0 : n < 0 ∨ n > 100000 ∨ (d.length : Int) > 4000
  · have e : frameB n d = ([], false) := if_pos h0
    rw [e]
    repeat' (first | (first | refine brT ?_ | refine brF ?_ | refine And.intro rfl ?_ | refine And.intro trivial ?_ | intro _) | refine brI (fun _ => ?_) (fun _ => ?_))
    all_goals first
      | (exfalso; simp_all; omega)
      | exact ⟨1, rfl⟩
  have e : frameB n d = (hdr3 n d ++ d, true) := if_neg h0
  rw [e]
  have r1 := crcOf_range (hdr1_B n d)
  have r2 := crcOf_range hb
  have k1 := hdr1_len n d
  have cp := i_putBytes ([82] ++ putB n 3) d.length 3 (by omega) (by omega) (by decide) (by simp [putB_len]; decide)
  have el : (d.map T.u8).length = d.length := List.length_map ..
  rw [show ([82] ++ putB n 3) ++ putB (d.length : Int) 3 = hdr1 n d from rfl, ← el] at cp
  have ee : (hdr3 n d).map T.u8 ++ d.map T.u8 = (hdr3 n d ++ d).map T.u8 := (List.map_append ..).symm
  repeat (first | (first | refine brT ?_ | refine brF ?_ | refine And.intro rfl ?_ | refine And.intro trivial ?_ | intro _) | (refine brL ?a (fun _ => ?_); case a => (simp <;> omega)))
  refine ⟨cB [82], fun q0 => ?_⟩
  repeat (first | refine brT ?_ | refine brF ?_ | refine And.intro rfl ?_ | refine And.intro trivial ?_ | intro _)
  refine ⟨_, i_putBytes [82] n 3 (by omega) (by omega) (by decide) (by decide), ?_⟩
  repeat (first | refine brT ?_ | refine brF ?_ | refine And.intro rfl ?_ | refine And.intro trivial ?_ | intro _)
  refine ⟨_, cp, ?_⟩
  repeat (first | refine brT ?_ | refine brF ?_ | refine And.intro rfl ?_ | refine And.intro trivial ?_ | intro _)
  refine ⟨_, i_Crc (hdr1 n d) (hdr1_B n d) (by rw [k1]; decide), ?_⟩
  repeat (first | refine brT ?_ | refine brF ?_ | refine And.intro rfl ?_ | refine And.intro trivial ?_ | intro _)
  refine ⟨_, i_putBytes (hdr1 n d) (crcOf (hdr1 n d)) 4 r1.1 (by omega) (by decide) (by rw [k1]; decide), ?_⟩
  repeat (first | refine brT ?_ | refine brF ?_ | refine And.intro rfl ?_ | refine And.intro trivial ?_ | intro _)
  refine ⟨_, i_Crc d hb hl, ?_⟩
  repeat (first | refine brT ?_ | refine brF ?_ | refine And.intro rfl ?_ | refine And.intro trivial ?_ | intro _)
  refine ⟨_, i_putBytes (hdr2 n d) (crcOf d) 4 r2.1 (by omega) (by decide) (by simp [hdr2, k1, putB_len]; decide), ?_⟩
  repeat (first | refine brT ?_ | refine brF ?_ | refine And.intro rfl ?_ | refine And.intro trivial ?_ | intro _)
  refine ⟨vB, by have := hdr3_len n d; simp only [hdr3] at this; rw [List.length_map, List.length_map, this]; unfold bound; omega, fun q1 => ?_⟩
  repeat (first | refine brT ?_ | refine brF ?_ | refine And.intro rfl ?_ | refine And.intro trivial ?_ | intro _)
  exact congrArg (fun z => [T.sl 1 z, T.bool true]) ee
def strP (l : List (List Int)) (i : Nat) : List Int := ((List.range i).map (fun j => match l[j]? with
  | some d => (frameB j d).1
  | none => [])).flatten
def stream (l : List (List Int)) : List Int × Bool := if (List.range l.length).all (fun j => match l[j]? with
  | some d => (frameB j d).2
  | none => true) then (strP l l.length, true) else ([], false)
theorem strP_succ {l : List (List Int)} {i : Nat} (h : i < l.length) : strP l (i + 1) = strP l i ++ (frameB i l[i]).1 := by
  simp [strP, List.range_succ, h]
def totL (l : List (List Int)) : Nat := (l.map (fun d => d.length + 15)).sum
theorem totL_take (l : List (List Int)) (i : Nat) : totL (l.take i) ≤ totL l := by
  induction l generalizing i with
  | nil => simp [totL]
  | cons d l ih =>
    cases i with
    | zero => simp [totL]
    | succ i => have := ih i; simp only [totL, List.take_succ_cons, List.map_cons, List.sum_cons] at this ⊢; omega
theorem strP_len {l : List (List Int)} : ∀ {i : Nat}, i ≤ l.length → (strP l i).length ≤ totL (l.take i)
  | 0, _ => by simp [strP]
  | i + 1, h => by
    have h1 := strP_len (l := l) (i := i) (by omega)
    have h2 := frameB_len i (l[i]'(by omega))
    rw [strP_succ (by omega), List.length_append, List.take_succ_eq_append_getElem (by omega)]
    simp only [totL, List.map_append, List.sum_append, List.map_cons, List.map_nil, List.sum_cons, List.sum_nil] at h1 ⊢
    omega
theorem str_no {l : List (List Int)} {i : Nat} (h : i < l.length) (hk : (frameB i l[i]).2 = false) : stream l = ([], false) := by
  have : (List.range l.length).all (fun j => match l[j]? with
    | some d => (frameB j d).2
    | none => true) = false := List.all_eq_false.2 ⟨i, List.mem_range.2 h, by simp [h, hk]⟩
  unfold stream
  rw [this]; rfl
theorem str_yes {l : List (List Int)} (h : ∀ j (hj : j < l.length), (frameB j l[j]).2 = true) : stream l = (strP l l.length, true) := by
  have : (List.range l.length).all (fun j => match l[j]? with
    | some d => (frameB j d).2
    | none => true) = true := List.all_eq_true.2 (fun j hj => by have := List.mem_range.1 hj; simp [this, h j this])
  unfold stream
  rw [this]; rfl


end Go.Proofs.Ytiphlkclkieanaa.E
