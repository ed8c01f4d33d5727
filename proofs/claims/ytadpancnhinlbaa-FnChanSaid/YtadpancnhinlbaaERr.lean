/- Contracts of functions of this seat's program. -/
import Derived.Test.YtadpancnhinlbaaETy
import Derived.Test.YtadpancnhinlbaaERq
namespace Go.Proofs.Ytadpancnhinlbaa.E
set_option linter.unusedVariables false
set_option linter.unusedSimpArgs false
set_option maxHeartbeats 1600000
def drawI (l : List Int) (m : Int) : Nat → Int × Int → (Int × Int) × List Int
  | 0, c => (c, [])
  | k + 1, c => let a := drawI l m k c; let b := belowC l a.1 m; (b.1, a.2 ++ [b.2])
def drawW (l : List Int) : Nat → Int × Int → (Int × Int) × List Y_Waiter
  | 0, c => (c, [])
  | k + 1, c => let a := drawW l k c; let g := belowC l a.1 4; let s := belowC l g.1 3; let v := belowC l s.1 20; (v.1, a.2 ++ [(g.2, w64 (s.2 - 1), v.2)])
def drawV (l : List Int) : Nat → Int × Int → (Int × Int) × List Y_Waiter
  | 0, c => (c, [])
  | k + 1, c => let a := drawV l k c; let g := belowC l a.1 4; let s := belowC l g.1 3; (s.1, a.2 ++ [(g.2, w64 (s.2 - 1), 0)])
theorem drawI_in (l : List Int) (hl : l.length ≤ bound) (m : Int) (c : Int × Int) (h : 0 ≤ c.1) : ∀ k : Nat, 0 ≤ (drawI l m k c).1.1 ∧ (drawI l m k c).2.length = k
  | 0 => ⟨h, rfl⟩
  | k + 1 => by
    have ih := drawI_in l hl m c h k
    have := belowC_in l hl _ ih.1 m
    exact ⟨this.1, by simp [drawI, ih.2]⟩
theorem drawW_in (l : List Int) (hl : l.length ≤ bound) (c : Int × Int) (h : 0 ≤ c.1) : ∀ k : Nat, 0 ≤ (drawW l k c).1.1 ∧ (drawW l k c).2.length = k
  | 0 => ⟨h, rfl⟩
  | k + 1 => by
    have ih := drawW_in l hl c h k
    have a := belowC_in l hl _ ih.1 4
    have b := belowC_in l hl _ a.1 3
    have d := belowC_in l hl _ b.1 20
    exact ⟨d.1, by simp [drawW, ih.2]⟩
theorem drawV_in (l : List Int) (hl : l.length ≤ bound) (c : Int × Int) (h : 0 ≤ c.1) : ∀ k : Nat, 0 ≤ (drawV l k c).1.1 ∧ (drawV l k c).2.length = k
  | 0 => ⟨h, rfl⟩
  | k + 1 => by
    have ih := drawV_in l hl c h k
    have a := belowC_in l hl _ ih.1 4
    have b := belowC_in l hl _ a.1 3
    exact ⟨b.1, by simp [drawV, ih.2]⟩
def drawC (l : List Int) (c : Int × Int) : (Int × Int) × Y_Chan :=
  let a1 := belowC l c 4; let a2 := belowC l a1.1 4; let a3 := belowC l a2.1 (w64 (a1.2 + 1)); let b1 := drawI l 20 a3.2.toNat a3.1
  if a2.2 = 0 then
    let b2 := drawI l 20 (a1.2 - a3.2).toNat b1.1; let s0 := belowC l b2.1 4; let s := drawW l s0.2.toNat s0.1
    (s.1, (a1.2, b1.2 ++ b2.2, s.2, [], false))
  else if a2.2 = 1 then
    let r0 := belowC l b1.1 4; let r := drawV l r0.2.toNat r0.1
    (r.1, (a1.2, [], [], r.2, false))
  else (b1.1, (a1.2, b1.2, [], [], a2.2 == 2))
theorem s_l06Draw (l : List Int) (hl : l.length ≤ bound) (c : Int × Int) (h : 0 ≤ c.1) : SpecP Try.prog 35 (curT l c) (curT l (drawC l c).1) [] [t_Chan (drawC l c).2] := by
  obtain ⟨a1, ha1⟩ : ∃ x, x = belowC l c 4 := ⟨_, rfl⟩
  obtain ⟨a2, ha2⟩ : ∃ x, x = belowC l a1.1 4 := ⟨_, rfl⟩
  obtain ⟨a3, ha3⟩ : ∃ x, x = belowC l a2.1 (w64 (a1.2 + 1)) := ⟨_, rfl⟩
  have i1 := belowC_in l hl c h 4
  have s1 := s_l01Below l hl c h 4
  rw [← ha1] at i1 s1
  have i2 := belowC_in l hl _ i1.1 4
  have s2 := s_l01Below l hl _ i1.1 4
  rw [← ha2] at i2 s2
  have i3 := belowC_in l hl _ i2.1 (w64 (a1.2 + 1))
  have s3 := s_l01Below l hl _ i2.1 (w64 (a1.2 + 1))
  rw [← ha3] at i3 s3
  have hn := i3.2.2
  rw [w64_id (by omega) (by omega)] at hn
  have m1 := i1.2.2 (by decide)
  have m2 := i2.2.2 (by decide)
  have m3 := hn (by omega)
  have i1' := i1.2.1
  have i2' := i2.2.1
  have i3' := i3.2.1
  unfold drawC
  simp only [← ha1, ← ha2, ← ha3]
  refine fnP Try.func35 ?_
  repeat (first | refine brT ?_ | refine brF ?_ | refine And.intro rfl ?_ | refine And.intro trivial ?_ | intro _)
  refine ⟨_, _, s1, fun qa1 => ?_⟩
  repeat (first | refine brT ?_ | refine brF ?_ | refine And.intro rfl ?_ | refine And.intro trivial ?_ | intro _)
  refine ⟨_, _, s2, fun qa2 => ?_⟩
  repeat (first | refine brT ?_ | refine brF ?_ | refine And.intro rfl ?_ | refine And.intro trivial ?_ | intro _)
  refine ⟨_, _, s3, fun qa3 => ?_⟩
  repeat (first | refine brT ?_ | refine brF ?_ | refine And.intro rfl ?_ | refine And.intro trivial ?_ | intro _)
  rename_i q2 q3
  generalize hcap : a1.2 = cap at *
  generalize hmo : a2.2 = mo at *
  obtain ⟨n, hn'⟩ : ∃ x : Nat, x = a3.2.toNat := ⟨_, rfl⟩
  have hn2 : a3.2 = (n : Int) := by omega
  rw [← hn']
  rw [hn2] at m3 ⊢
  generalize hc3 : a3.1 = c3 at *
  have hc0 : 0 ≤ c3.1 := i3.1
  clear hn' hn2 s1 s2 s3 i1 i2 i3 hn ha1 ha2 ha3
  refine loopE (fun x : Nat × Nat => ⟨87, [(0, .c (.bx 500 0 0)), (2, .c (.bx 3000 q2 0)), (3, .c (.bx 4000 q3 0)), (4, .int mo), (5, .int ((n : Int) - x.1))],
    [(500, .box 0 [.fx 0 1 (l.map T.u8), .v (.int .i64 (drawI l 20 x.1 c3).1.1), .v (.int .i64 (drawI l 20 x.1 c3).1.2)]), (3000, .box q2 [.v (.int .i64 0), .v (.slice none 0 0), .v (.slice none 0 0), .v (.slice none 0 0), .v (.bool false)]),
     (4000, .box q3 [.v (.int .i64 cap), .own 28000 x.2, .v (.slice none 0 0), .v (.slice none 0 0), .v (.bool false)]), (28000, .row x.2 0 1 ((drawI l 20 x.1 c3).2.map T.int))]⟩) (fun x => n - x.1) (fun x => x.1 ≤ n)
    (.box 4000 28000 1 1 rfl rfl rfl rfl (fun qc => .here ⟨(0, qc), Nat.zero_le _, rfl⟩ (wk rfl ⟨rfl, rfl, rfl, rfl, congrArg AV.int (by show (n : Int) = (n : Int) - ((0 : Nat) : Int); omega), trivial⟩ ⟨rfl, rfl, rfl, rfl, trivial⟩))) ?_
  · rintro ⟨k, q⟩ hk
    simp only at hk
    have ik := drawI_in l hl 20 c3 hc0 k
    have sk := s_l01Below l hl _ ik.1 20
    have hrow : (drawI l 20 (k + 1) c3).2.map T.int = (drawI l 20 k c3).2.map T.int ++ [T.int (belowC l (drawI l 20 k c3).1 20).2] := List.map_append
    repeat (first | refine brT ?_ | refine brF ?_ | refine And.intro rfl ?_ | refine And.intro trivial ?_ | intro _)
    by_cases hk2 : k < n
    · refine brR (by show ¬ (decide ((n : Int) - (k : Int) > 0) = false); rw [decide_eq_true (by omega)]; decide) (fun _ => ?_)
      repeat (first | refine brT ?_ | refine brF ?_ | refine And.intro rfl ?_ | refine And.intro trivial ?_ | intro _)
      refine drM0 (Pl.go 0 (Pl.go 2 ((Pl.go 1 (Pl.go 3 (Pl.go 4 (Pl.go 5 (Pl.go 6 (Pl.go 7 Pl.stop)))))).or (Pl.go 3 ((Pl.go 1 (Pl.go 4 (Pl.go 5 (Pl.go 6 (Pl.go 7 Pl.stop))))).or (Pl.go 4 (Pl.go 1 (Pl.go 5 (Pl.go 6 (Pl.go 7 Pl.stop)))))))))) (fun m => ∃ Q : Nat, m = ⟨87, [(0, .c (.bx 500 0 0)), (2, .c (.bx 3000 q2 0)), (3, .c (.bx 4000 q3 0)), (4, .int mo), (5, .int ((n : Int) - k))],
    [(500, .box 0 [.fx 0 1 (l.map T.u8), .v (.int .i64 (drawI l 20 (k + 1) c3).1.1), .v (.int .i64 (drawI l 20 (k + 1) c3).1.2)]), (3000, .box q2 [.v (.int .i64 0), .v (.slice none 0 0), .v (.slice none 0 0), .v (.slice none 0 0), .v (.bool false)]),
     (4000, .box q3 [.v (.int .i64 cap), .own 28000 Q, .v (.slice none 0 0), .v (.slice none 0 0), .v (.bool false)]), (28000, .row Q 0 1 ((drawI l 20 (k + 1) c3).2.map T.int))]⟩) (by kernel_rfl) ?_ ?_
      · repeat' (first | (first | refine brT ?_ | refine brF ?_ | refine And.intro rfl ?_ | refine And.intro trivial ?_ | intro _) | refine ⟨_, _, sk, fun qe => ?_⟩ | refine ⟨fun t ht => (by simp at ht; subst ht; rfl), fun qf => ?_⟩ | refine ⟨?_, fun qg => ?_⟩ | refine And.intro ?_ ?_ | fail)
        all_goals first
          | (simp [ik.2]; unfold bound; omega)
          | exact ⟨_, ⟨_, rfl⟩, wk rfl ⟨rfl, rfl, rfl, rfl, rfl, trivial⟩ ⟨rfl, rfl, rfl, congrArg (fun z => some (Ob.row _ 0 1 z)) hrow.symm, trivial⟩⟩
      rintro m ⟨Q, rfl⟩
      repeat (first | refine brT ?_ | refine brF ?_ | refine And.intro rfl ?_ | refine And.intro trivial ?_ | intro _)
      refine nxt (k + 1, Q) hk2 (by show n - (k + 1) < n - k; omega) (wk rfl ⟨rfl, rfl, rfl, rfl, congrArg AV.int ?_, trivial⟩ ⟨rfl, rfl, rfl, rfl, trivial⟩)
      show w64 ((n : Int) - (k : Int) - 1) = (n : Int) - ((k + 1 : Nat) : Int)
      rw [w64_id (by omega) (by omega)]; omega
    · have : k = n := by omega
      subst this
      refine brL (by show ¬ (decide ((k : Int) - (k : Int) > 0) = true); rw [decide_eq_false (by omega)]; decide) (fun _ => ?_)
      clear hk hk2 hrow sk
      generalize hb : drawI l 20 k c3 = b1 at *
      have hb0 : 0 ≤ b1.1.1 := ik.1
      have hmc : mo = 0 ∨ mo = 1 ∨ mo = 2 ∨ mo = 3 := by omega
      rcases hmc with rfl | rfl | rfl | rfl
      · rw [if_pos rfl]
        repeat (first | (first | refine brT ?_ | refine brF ?_ | refine And.intro rfl ?_ | refine And.intro trivial ?_ | intro _) | (refine brL ?kzz (fun _ => ?_); case kzz => (simp <;> omega)) | (refine brR ?kzz (fun _ => ?_); case kzz => (simp <;> omega)))
        obtain ⟨m, hm⟩ : ∃ m : Nat, m = (cap - (k : Int)).toNat := ⟨_, rfl⟩
        have hm2 : cap = (k : Int) + m := by omega
        rw [← hm]
        refine loopI (fun x : Nat × Nat => ⟨87, [(0, .c (.bx 500 0 0)), (2, .c (.bx 3000 q2 0)), (3, .c (.bx 4000 q3 0)), (4, .int 0)],
          [(500, .box 0 [.fx 0 1 (l.map T.u8), .v (.int .i64 (drawI l 20 x.1 b1.1).1.1), .v (.int .i64 (drawI l 20 x.1 b1.1).1.2)]), (3000, .box q2 [.v (.int .i64 0), .v (.slice none 0 0), .v (.slice none 0 0), .v (.slice none 0 0), .v (.bool false)]),
           (4000, .box q3 [.v (.int .i64 cap), .own 28000 x.2, .v (.slice none 0 0), .v (.slice none 0 0), .v (.bool false)]), (28000, .row x.2 0 1 ((b1.2 ++ (drawI l 20 x.1 b1.1).2).map T.int))]⟩) (fun x => m - x.1) (fun x => x.1 ≤ m)
          (0, q) (Nat.zero_le _) (wk rfl ⟨rfl, rfl, rfl, rfl, trivial⟩ ⟨rfl, rfl, rfl, congrArg (fun z => some (Ob.row _ 0 1 z)) (by simp [drawI]), trivial⟩) ?_
        rintro ⟨j, q⟩ hj
        simp only at hj
        have ij := drawI_in l hl 20 b1.1 hb0 j
        have sj := s_l01Below l hl _ ij.1 20
        have hrow : (b1.2 ++ (drawI l 20 (j + 1) b1.1).2).map T.int = (b1.2 ++ (drawI l 20 j b1.1).2).map T.int ++ [T.int (belowC l (drawI l 20 j b1.1).1 20).2] := by
          show (b1.2 ++ ((drawI l 20 j b1.1).2 ++ [(belowC l (drawI l 20 j b1.1).1 20).2])).map T.int = _
          rw [← List.append_assoc, List.map_append]; rfl
        have hlen : ((((b1.2 ++ (drawI l 20 j b1.1).2).map T.int).length : Nat) : Int) = (k : Int) + j := by rw [List.length_map, List.length_append, ij.2, ik.2]; omega
        repeat (first | refine brT ?_ | refine brF ?_ | refine And.intro rfl ?_ | refine And.intro trivial ?_ | intro _)
        by_cases hj2 : j < m
        · refine brR (by show ¬ (decide ((((b1.2 ++ (drawI l 20 j b1.1).2).map T.int).length : Int) < cap) = false); rw [hlen, decide_eq_true (by omega)]; decide) (fun _ => ?_)
          repeat (first | refine brT ?_ | refine brF ?_ | refine And.intro rfl ?_ | refine And.intro trivial ?_ | intro _)
          refine drM0 (Pl.go 0 (Pl.go 2 ((Pl.go 1 (Pl.go 3 (Pl.go 4 (Pl.go 5 (Pl.go 6 (Pl.go 7 Pl.stop)))))).or (Pl.go 3 ((Pl.go 1 (Pl.go 4 (Pl.go 5 (Pl.go 6 (Pl.go 7 Pl.stop))))).or (Pl.go 4 (Pl.go 1 (Pl.go 5 (Pl.go 6 (Pl.go 7 Pl.stop)))))))))) (fun s => ∃ Q : Nat, s = ⟨87, [(0, .c (.bx 500 0 0)), (2, .c (.bx 3000 q2 0)), (3, .c (.bx 4000 q3 0)), (4, .int 0)],
          [(500, .box 0 [.fx 0 1 (l.map T.u8), .v (.int .i64 (drawI l 20 (j + 1) b1.1).1.1), .v (.int .i64 (drawI l 20 (j + 1) b1.1).1.2)]), (3000, .box q2 [.v (.int .i64 0), .v (.slice none 0 0), .v (.slice none 0 0), .v (.slice none 0 0), .v (.bool false)]),
           (4000, .box q3 [.v (.int .i64 cap), .own 28000 Q, .v (.slice none 0 0), .v (.slice none 0 0), .v (.bool false)]), (28000, .row Q 0 1 ((b1.2 ++ (drawI l 20 (j + 1) b1.1).2).map T.int))]⟩) (by kernel_rfl) ?_ ?_
          · repeat' (first | (first | refine brT ?_ | refine brF ?_ | refine And.intro rfl ?_ | refine And.intro trivial ?_ | intro _) | refine ⟨_, _, sj, fun qe => ?_⟩ | refine ⟨fun t ht => (by simp at ht; subst ht; rfl), fun qf => ?_⟩ | refine ⟨?_, fun qg => ?_⟩ | refine And.intro ?_ ?_ | fail)
            all_goals first
              | (simp [ij.2, ik.2]; unfold bound; omega)
              | exact ⟨_, ⟨_, rfl⟩, wk rfl ⟨rfl, rfl, rfl, rfl, trivial⟩ ⟨rfl, rfl, rfl, congrArg (fun z => some (Ob.row _ 0 1 z)) hrow.symm, trivial⟩⟩
          rintro s ⟨Q, rfl⟩
          repeat (first | refine brT ?_ | refine brF ?_ | refine And.intro rfl ?_ | refine And.intro trivial ?_ | intro _)
          exact nxt (j + 1, Q) hj2 (by show m - (j + 1) < m - j; omega) (wk rfl ⟨rfl, rfl, rfl, rfl, trivial⟩ ⟨rfl, rfl, rfl, rfl, trivial⟩)
        · have : j = m := by omega
          subst this
          refine brL (by show ¬ (decide ((((b1.2 ++ (drawI l 20 j b1.1).2).map T.int).length : Int) < cap) = true); rw [hlen, decide_eq_false (by omega)]; decide) (fun _ => ?_)
          repeat (first | refine brT ?_ | refine brF ?_ | refine And.intro rfl ?_ | refine And.intro trivial ?_ | intro _)
          clear hrow hlen hj hj2 sj
          have hbl : (b1.2 ++ (drawI l 20 j b1.1).2).length = k + j := by rw [List.length_append, ij.2, ik.2]
          generalize hbuf : b1.2 ++ (drawI l 20 j b1.1).2 = buf at *
          generalize hd1 : (drawI l 20 j b1.1).1 = d1 at *
          have id := belowC_in l hl d1 ij.1 4
          have sd := s_l01Below l hl d1 ij.1 4
          refine ⟨_, _, sd, fun qh => ?_⟩
          repeat (first | refine brT ?_ | refine brF ?_ | refine And.intro rfl ?_ | refine And.intro trivial ?_ | intro _)
          generalize hd2 : belowC l d1 4 = d2 at *
          obtain ⟨n, hn⟩ : ∃ n : Nat, n = d2.2.toNat := ⟨_, rfl⟩
          have hn2 : d2.2 = (n : Int) := by have := id.2.1; omega
          have hn3 : n < 4 := by have := id.2.2 (by decide); omega
          rw [← hn, hn2]
          have hd0 : 0 ≤ d2.1.1 := id.1
          generalize d2.1 = d3 at *
          refine loopE (fun x : Nat × Nat => ⟨87, [(0, .c (.bx 500 0 0)), (2, .c (.bx 3000 q2 0)), (3, .c (.bx 4000 q3 0)), (4, .int 0), (6, .int ((n : Int) - x.1))],
            [(500, .box 0 [.fx 0 1 (l.map T.u8), .v (.int .i64 (drawW l x.1 d3).1.1), .v (.int .i64 (drawW l x.1 d3).1.2)]), (3000, .box q2 [.v (.int .i64 0), .v (.slice none 0 0), .v (.slice none 0 0), .v (.slice none 0 0), .v (.bool false)]),
             (4000, .box q3 [.v (.int .i64 cap), .own 28000 q, .own 62000 x.2, .v (.slice none 0 0), .v (.bool false)]), (28000, .row q 0 1 (buf.map T.int)), (62000, .row x.2 0 3 ((drawW l x.1 d3).2.map t_Waiter))]⟩) (fun x => n - x.1) (fun x => x.1 ≤ n)
            (.box 4000 62000 2 3 rfl rfl rfl rfl (fun qc => .here ⟨(0, qc), Nat.zero_le _, rfl⟩ (wk rfl ⟨rfl, rfl, rfl, rfl, congrArg AV.int (by show (n : Int) = (n : Int) - ((0 : Nat) : Int); omega), trivial⟩ ⟨rfl, rfl, rfl, rfl, rfl, trivial⟩))) ?_
          rintro ⟨i, qq⟩ hi
          simp only at hi
          have ii := drawW_in l hl d3 hd0 i
          have jg := belowC_in l hl _ ii.1 4
          have sg := s_l01Below l hl _ ii.1 4
          have js := belowC_in l hl _ jg.1 3
          have ss := s_l01Below l hl _ jg.1 3
          have sv := s_l01Below l hl _ js.1 20
          have hrow : (drawW l (i + 1) d3).2.map t_Waiter = (drawW l i d3).2.map t_Waiter ++ [t_Waiter ((belowC l (drawW l i d3).1 4).2, w64 ((belowC l (belowC l (drawW l i d3).1 4).1 3).2 - 1), (belowC l (belowC l (belowC l (drawW l i d3).1 4).1 3).1 20).2)] := List.map_append
          repeat (first | refine brT ?_ | refine brF ?_ | refine And.intro rfl ?_ | refine And.intro trivial ?_ | intro _)
          by_cases hi2 : i < n
          · refine brR (by show ¬ (decide ((n : Int) - (i : Int) > 0) = false); rw [decide_eq_true (by omega)]; decide) (fun _ => ?_)
            repeat (first | refine brT ?_ | refine brF ?_ | refine And.intro rfl ?_ | refine And.intro trivial ?_ | intro _)
            refine drM0 (Pl.go 0 (Pl.go 2 (Pl.go 4 (Pl.go 7 ((Pl.go 1 (Pl.go 3 (Pl.go 5 (Pl.go 6 (Pl.go 8 (Pl.go 9 (Pl.go 10 (Pl.go 11 (Pl.go 12 (Pl.go 13 Pl.stop)))))))))).or (Pl.go 3 ((Pl.go 1 (Pl.go 5 (Pl.go 6 (Pl.go 8 (Pl.go 9 (Pl.go 10 (Pl.go 11 (Pl.go 12 (Pl.go 13 Pl.stop))))))))).or (Pl.go 5 (Pl.go 6 ((Pl.go 1 (Pl.go 8 (Pl.go 9 (Pl.go 10 (Pl.go 11 (Pl.go 12 (Pl.go 13 Pl.stop))))))).or (Pl.go 8 ((Pl.go 1 (Pl.go 9 (Pl.go 10 (Pl.go 11 (Pl.go 12 (Pl.go 13 Pl.stop)))))).or (Pl.go 9 ((Pl.go 1 (Pl.go 10 (Pl.go 11 (Pl.go 12 (Pl.go 13 Pl.stop))))).or (Pl.go 10 (Pl.go 1 (Pl.go 11 (Pl.go 12 (Pl.go 13 Pl.stop))))))))))))))))))) (fun s => ∃ Q : Nat, s = ⟨87, [(0, .c (.bx 500 0 0)), (2, .c (.bx 3000 q2 0)), (3, .c (.bx 4000 q3 0)), (4, .int 0), (6, .int ((n : Int) - i))],
            [(500, .box 0 [.fx 0 1 (l.map T.u8), .v (.int .i64 (drawW l (i + 1) d3).1.1), .v (.int .i64 (drawW l (i + 1) d3).1.2)]), (3000, .box q2 [.v (.int .i64 0), .v (.slice none 0 0), .v (.slice none 0 0), .v (.slice none 0 0), .v (.bool false)]),
             (4000, .box q3 [.v (.int .i64 cap), .own 28000 q, .own 62000 Q, .v (.slice none 0 0), .v (.bool false)]), (28000, .row q 0 1 (buf.map T.int)), (62000, .row Q 0 3 ((drawW l (i + 1) d3).2.map t_Waiter))]⟩) (by kernel_rfl) ?_ ?_
            · repeat' (first | (first | refine brT ?_ | refine brF ?_ | refine And.intro rfl ?_ | refine And.intro trivial ?_ | intro _) | refine ⟨_, _, sg, fun qe => ?_⟩ | refine ⟨_, _, ss, fun qe => ?_⟩ | refine ⟨_, _, sv, fun qe => ?_⟩ | refine ⟨fun t ht => (by simp at ht; subst ht; rfl), fun qf => ?_⟩ | refine ⟨?_, fun qg => ?_⟩ | refine And.intro ?_ ?_ | fail)
              all_goals first
                | (simp [ii.2]; unfold bound; omega)
                | exact ⟨_, ⟨_, rfl⟩, wk rfl ⟨rfl, rfl, rfl, rfl, rfl, trivial⟩ ⟨rfl, rfl, rfl, rfl, congrArg (fun z => some (Ob.row _ 0 3 z)) hrow.symm, trivial⟩⟩
            rintro s ⟨Q, rfl⟩
            repeat (first | refine brT ?_ | refine brF ?_ | refine And.intro rfl ?_ | refine And.intro trivial ?_ | intro _)
            refine nxt (i + 1, Q) hi2 (by show n - (i + 1) < n - i; omega) (wk rfl ⟨rfl, rfl, rfl, rfl, congrArg AV.int ?_, trivial⟩ ⟨rfl, rfl, rfl, rfl, rfl, trivial⟩)
            show w64 ((n : Int) - (i : Int) - 1) = (n : Int) - ((i + 1 : Nat) : Int)
            rw [w64_id (by omega) (by omega)]; omega
          · have : i = n := by omega
            subst this
            refine brL (by show ¬ (decide ((i : Int) - (i : Int) > 0) = true); rw [decide_eq_false (by omega)]; decide) (fun _ => ?_)
            repeat (first | refine brT ?_ | refine brF ?_ | refine And.intro rfl ?_ | refine And.intro trivial ?_ | intro _)
            refine ⟨3, ?_⟩
            repeat (first | refine brT ?_ | refine brF ?_ | refine And.intro rfl ?_ | refine And.intro trivial ?_ | intro _)
            exact ⟨⟨_, _, rfl⟩, rfl, rfl, trivial⟩
      · rw [if_neg (by decide), if_pos rfl]
        repeat (first | (first | refine brT ?_ | refine brF ?_ | refine And.intro rfl ?_ | refine And.intro trivial ?_ | intro _) | (refine brL ?kzz (fun _ => ?_); case kzz => (simp <;> omega)) | (refine brR ?kzz (fun _ => ?_); case kzz => (simp <;> omega)))
        have id := belowC_in l hl b1.1 hb0 4
        have sd := s_l01Below l hl b1.1 hb0 4
        refine ⟨_, _, sd, fun qh => ?_⟩
        repeat (first | refine brT ?_ | refine brF ?_ | refine And.intro rfl ?_ | refine And.intro trivial ?_ | intro _)
        generalize hd2 : belowC l b1.1 4 = d2 at *
        obtain ⟨n, hn⟩ : ∃ n : Nat, n = d2.2.toNat := ⟨_, rfl⟩
        have hn2 : d2.2 = (n : Int) := by have := id.2.1; omega
        have hn3 : n < 4 := by have := id.2.2 (by decide); omega
        rw [← hn, hn2]
        have hd0 : 0 ≤ d2.1.1 := id.1
        generalize d2.1 = d3 at *
        refine loopE (fun x : Nat × Nat => ⟨87, [(0, .c (.bx 500 0 0)), (2, .c (.bx 3000 q2 0)), (3, .c (.bx 4000 q3 0)), (4, .int 1), (7, .int ((n : Int) - x.1))],
            [(500, .box 0 [.fx 0 1 (l.map T.u8), .v (.int .i64 (drawV l x.1 d3).1.1), .v (.int .i64 (drawV l x.1 d3).1.2)]), (3000, .box q2 [.v (.int .i64 0), .v (.slice none 0 0), .v (.slice none 0 0), .v (.slice none 0 0), .v (.bool false)]),
             (4000, .box q3 [.v (.int .i64 cap), .v (.slice none 0 0), .v (.slice none 0 0), .own 82000 x.2, .v (.bool false)]), (82000, .row x.2 0 3 ((drawV l x.1 d3).2.map t_Waiter))]⟩) (fun x => n - x.1) (fun x => x.1 ≤ n)
            (.box 4000 82000 3 3 rfl rfl rfl rfl (fun qc => .here ⟨(0, qc), Nat.zero_le _, rfl⟩ (wk rfl ⟨rfl, rfl, rfl, rfl, congrArg AV.int (by show (n : Int) = (n : Int) - ((0 : Nat) : Int); omega), trivial⟩ ⟨rfl, rfl, rfl, rfl, trivial⟩))) ?_
        rintro ⟨i, qq⟩ hi
        simp only at hi
        have ii := drawV_in l hl d3 hd0 i
        have jg := belowC_in l hl _ ii.1 4
        have sg := s_l01Below l hl _ ii.1 4
        have ss := s_l01Below l hl _ jg.1 3
        have hrow : (drawV l (i + 1) d3).2.map t_Waiter = (drawV l i d3).2.map t_Waiter ++ [t_Waiter ((belowC l (drawV l i d3).1 4).2, w64 ((belowC l (belowC l (drawV l i d3).1 4).1 3).2 - 1), 0)] := List.map_append
        repeat (first | refine brT ?_ | refine brF ?_ | refine And.intro rfl ?_ | refine And.intro trivial ?_ | intro _)
        by_cases hi2 : i < n
        · refine brR (by show ¬ (decide ((n : Int) - (i : Int) > 0) = false); rw [decide_eq_true (by omega)]; decide) (fun _ => ?_)
          repeat (first | refine brT ?_ | refine brF ?_ | refine And.intro rfl ?_ | refine And.intro trivial ?_ | intro _)
          refine drM0 (Pl.go 0 (Pl.go 2 (Pl.go 4 ((Pl.go 1 (Pl.go 3 (Pl.go 5 (Pl.go 6 (Pl.go 7 (Pl.go 8 (Pl.go 9 (Pl.go 10 (Pl.go 11 Pl.stop))))))))).or (Pl.go 3 ((Pl.go 1 (Pl.go 5 (Pl.go 6 (Pl.go 7 (Pl.go 8 (Pl.go 9 (Pl.go 10 (Pl.go 11 Pl.stop)))))))).or (Pl.go 5 (Pl.go 6 ((Pl.go 1 (Pl.go 7 (Pl.go 8 (Pl.go 9 (Pl.go 10 (Pl.go 11 Pl.stop)))))).or (Pl.go 7 ((Pl.go 1 (Pl.go 8 (Pl.go 9 (Pl.go 10 (Pl.go 11 Pl.stop))))).or (Pl.go 8 (Pl.go 1 (Pl.go 9 (Pl.go 10 (Pl.go 11 Pl.stop)))))))))))))))) (fun s => ∃ Q : Nat, s = ⟨87, [(0, .c (.bx 500 0 0)), (2, .c (.bx 3000 q2 0)), (3, .c (.bx 4000 q3 0)), (4, .int 1), (7, .int ((n : Int) - i))],
            [(500, .box 0 [.fx 0 1 (l.map T.u8), .v (.int .i64 (drawV l (i + 1) d3).1.1), .v (.int .i64 (drawV l (i + 1) d3).1.2)]), (3000, .box q2 [.v (.int .i64 0), .v (.slice none 0 0), .v (.slice none 0 0), .v (.slice none 0 0), .v (.bool false)]),
             (4000, .box q3 [.v (.int .i64 cap), .v (.slice none 0 0), .v (.slice none 0 0), .own 82000 Q, .v (.bool false)]), (82000, .row Q 0 3 ((drawV l (i + 1) d3).2.map t_Waiter))]⟩) (by kernel_rfl) ?_ ?_
          · repeat' (first | (first | refine brT ?_ | refine brF ?_ | refine And.intro rfl ?_ | refine And.intro trivial ?_ | intro _) | refine ⟨_, _, sg, fun qe => ?_⟩ | refine ⟨_, _, ss, fun qe => ?_⟩ | refine ⟨fun t ht => (by simp at ht; subst ht; rfl), fun qf => ?_⟩ | refine ⟨?_, fun qg => ?_⟩ | refine And.intro ?_ ?_ | fail)
            all_goals first
              | (simp [ii.2]; unfold bound; omega)
              | exact ⟨_, ⟨_, rfl⟩, wk rfl ⟨rfl, rfl, rfl, rfl, rfl, trivial⟩ ⟨rfl, rfl, rfl, congrArg (fun z => some (Ob.row _ 0 3 z)) hrow.symm, trivial⟩⟩
          rintro s ⟨Q, rfl⟩
          repeat (first | refine brT ?_ | refine brF ?_ | refine And.intro rfl ?_ | refine And.intro trivial ?_ | intro _)
          refine nxt (i + 1, Q) hi2 (by show n - (i + 1) < n - i; omega) (wk rfl ⟨rfl, rfl, rfl, rfl, congrArg AV.int ?_, trivial⟩ ⟨rfl, rfl, rfl, rfl, trivial⟩)
          show w64 ((n : Int) - (i : Int) - 1) = (n : Int) - ((i + 1 : Nat) : Int)
          rw [w64_id (by omega) (by omega)]; omega
        · have : i = n := by omega
          subst this
          refine brL (by show ¬ (decide ((i : Int) - (i : Int) > 0) = true); rw [decide_eq_false (by omega)]; decide) (fun _ => ?_)
          repeat (first | refine brT ?_ | refine brF ?_ | refine And.intro rfl ?_ | refine And.intro trivial ?_ | intro _)
          refine ⟨1, ?_⟩
          repeat (first | refine brT ?_ | refine brF ?_ | refine And.intro rfl ?_ | refine And.intro trivial ?_ | intro _)
          refine ⟨3, ?_⟩
          repeat (first | refine brT ?_ | refine brF ?_ | refine And.intro rfl ?_ | refine And.intro trivial ?_ | intro _)
          exact ⟨⟨_, _, rfl⟩, rfl, rfl, trivial⟩
      · rw [if_neg (by decide), if_neg (by decide)]
        repeat (first | (first | refine brT ?_ | refine brF ?_ | refine And.intro rfl ?_ | refine And.intro trivial ?_ | intro _) | (refine brL ?kzz (fun _ => ?_); case kzz => (simp <;> omega)) | (refine brR ?kzz (fun _ => ?_); case kzz => (simp <;> omega)))
        refine ⟨3, ?_⟩
        repeat (first | refine brT ?_ | refine brF ?_ | refine And.intro rfl ?_ | refine And.intro trivial ?_ | intro _)
        refine ⟨3, ?_⟩
        repeat (first | refine brT ?_ | refine brF ?_ | refine And.intro rfl ?_ | refine And.intro trivial ?_ | intro _)
        exact ⟨⟨_, _, rfl⟩, rfl, rfl, trivial⟩
      · rw [if_neg (by decide), if_neg (by decide)]
        repeat (first | (first | refine brT ?_ | refine brF ?_ | refine And.intro rfl ?_ | refine And.intro trivial ?_ | intro _) | (refine brL ?kzz (fun _ => ?_); case kzz => (simp <;> omega)) | (refine brR ?kzz (fun _ => ?_); case kzz => (simp <;> omega)))
        refine ⟨3, ?_⟩
        repeat (first | refine brT ?_ | refine brF ?_ | refine And.intro rfl ?_ | refine And.intro trivial ?_ | intro _)
        refine ⟨3, ?_⟩
        repeat (first | refine brT ?_ | refine brF ?_ | refine And.intro rfl ?_ | refine And.intro trivial ?_ | intro _)
        exact ⟨⟨_, _, rfl⟩, rfl, rfl, trivial⟩


end Go.Proofs.Ytadpancnhinlbaa.E
