/- The program's PutZig answers as the reference's, for every list of bytes and every int; it leaves the list as it was, and its answer is new memory; no condition. -/
import Derived.Test.YtcpmdkopbhddkaaPFnExactPutZigx3
import Derived.Test.YtcpmdkopbhddkaaCom
namespace Go.Proofs.Ytcpmdkopbhddkaa.Pure
open Go.RowKit Go.Proofs.Ytcpmdkopbhddkaa.PFnExactPutZig Go.Proofs.YtcpmdkopbhddkaaW.PrintWords Go.Proofs.YtcpmdkopbhddkaaW.PrintLast Go.Proofs.Ytcpmdkopbhddkaa.Com

/-! Copies of bytes, and their comparison with themselves. -/
theorem toByteS_l0 (x0 : List Int) (hb : x0.length ≤ 4611686018427387904) : ∀ (d i : Nat) (x3 : List Int), i + d = x0.length → x3.length = x0.length →
    Ev (fun k => laws_toByteS.l0 k x0 x3 (i : Int)) (x3.take i ++ x0.drop i) := by
  intro d
  induction d with
  | zero =>
    intro i x3 hd h3
    refine ev_one fun k => ?_
    simp only [laws_toByteS.l0]
    rw [if_neg (by omega), List.take_of_length_le (by omega), List.drop_of_length_le (by omega), List.append_nil]
  | succ d ih =>
    intro i x3 hd h3
    have e := ih (i + 1) (x3.set i (rd x0 i)) (by omega) (by simpa using h3)
    have hs := set_mid x0 x3 i 0 (by omega) h3
    refine Ev.step (fun k => ?_) (ev_cast e (show _ = x3.take i ++ x0.drop i from hs))
    simp only [laws_toByteS.l0]
    rw [if_pos (by omega), if_pos (by omega), if_pos (by omega), w64 (by omega) (by omega)]
    rfl
theorem toByteS_ev (l : List Int) (hb : l.length ≤ 281474976710656) : Ev (fun k => laws_toByteS.f k l) l := by
  simp only [laws_toByteS.f]
  refine ev_pos (by omega) (ev_pos (by omega) ?_)
  exact ev_cast (toByteS_l0 l (by omega) l.length 0 _ (by omega) (by simp)) (by simp)
theorem eqByteS_l0 (x : List Int) (hb : x.length ≤ 4611686018427387904) : ∀ (d i : Nat), i + d = x.length → Ev (fun k => laws_eqByteS.l0 k x x (i : Int)) true := by
  intro d
  induction d with
  | zero =>
    intro i hd
    refine ev_one fun k => ?_
    simp only [laws_eqByteS.l0]
    rw [if_neg (by omega)]
  | succ d ih =>
    intro i hd
    refine Ev.step (fun k => ?_) (ih (i + 1) (by omega))
    simp only [laws_eqByteS.l0]
    rw [if_pos (by omega), if_pos (by omega), if_pos (by omega), if_pos trivial, w64 (by omega) (by omega)]
    rfl
theorem eqByteS_ev (l : List Int) (hb : l.length ≤ 281474976710656) : Ev (fun k => laws_eqByteS.f k l l) true := by
  simp only [laws_eqByteS.f]
  exact ev_pos (by trivial) (eqByteS_l0 l (by omega) l.length 0 (by omega))
/-! Bytes that are marked, and looked at again. -/
def marksB (k : Int) : Nat → List Int
  | 0 => []
  | n + 1 => (k % 256) :: marksB (k + 1) n
theorem marksB_length : ∀ (n : Nat) (k : Int), (marksB k n).length = n
  | 0, _ => rfl
  | n + 1, k => by simp [marksB, marksB_length n]
theorem marksB_at : ∀ (n : Nat) (k : Int) (i : Nat) (h : i < (marksB k n).length), (marksB k n)[i] = (k + i) % 256
  | 0, _, i, h => by simp [marksB] at h
  | n + 1, k, 0, _ => by simp [marksB]
  | n + 1, k, i + 1, h => by
    have := marksB_at n (k + 1) i (by simpa [marksB] using h)
    simp only [marksB, List.getElem_cons_succ, this]
    congr 1
    omega
theorem markByteS_l0 (k0 : Int) (n : Nat) (hn : n ≤ 4611686018427387904) (h0 : 0 ≤ k0) (h1 : k0 ≤ 4611686018427387903) : ∀ (d i : Nat) (x : List Int), i + d = n → x.length = n →
    Ev (fun k => laws_markByteS.l0 k x (k0 + i) (i : Int)) (k0 + n, x.take i ++ marksB (k0 + i) d) := by
  intro d
  induction d with
  | zero =>
    intro i x hd hx
    refine ev_one fun k => ?_
    simp only [laws_markByteS.l0]
    rw [if_neg (by omega), List.take_of_length_le (by omega)]
    have : i = n := by omega
    subst this
    simp [marksB]
  | succ d ih =>
    intro i x hd hx
    have e := ih (i + 1) (x.set i ((k0 + i) % 256)) (by omega) (by simpa using hx)
    refine Ev.step (fun k => ?_) (ev_cast e ?_)
    · simp only [laws_markByteS.l0]
      rw [if_pos (by omega), if_pos (by omega), w64 (n := k0 + (i : Int) + 1) (by omega) (by omega), w64 (n := (i : Int) + 1) (by omega) (by omega)]
      have : (k0 + ((i + 1 : Nat) : Int)) = k0 + (i : Int) + 1 := by omega
      rw [this]
      rfl
    · congr 1
      have h2 : (x.set i ((k0 + i) % 256)).take (i + 1) = x.take i ++ [(k0 + i) % 256] := by
        rw [List.take_add_one, List.take_set_of_le (Nat.le_refl i), List.getElem?_set_self (by omega)]
        rfl
      rw [h2, List.append_assoc]
      congr 1
      have : (k0 + ((i + 1 : Nat) : Int)) = k0 + (i : Int) + 1 := by omega
      rw [this]
      rfl
theorem markByteS_ev (l : List Int) (k0 : Int) (hn : l.length ≤ 281474976710656) (h0 : 0 ≤ k0) (h1 : k0 ≤ 4611686018427387903) : Ev (fun k => laws_markByteS.f k l k0) (k0 + l.length, marksB k0 l.length) := by
  simp only [laws_markByteS.f]
  have e := markByteS_l0 k0 l.length (by omega) h0 h1 l.length 0 l (by omega) rfl
  simpa using e
theorem heldByteS_l0 (k0 : Int) (n : Nat) (hn : n ≤ 4611686018427387904) (h0 : 0 ≤ k0) (h1 : k0 ≤ 4611686018427387903) : ∀ (d i : Nat), i + d = n →
    Ev (fun k => laws_heldByteS.l0 k (marksB k0 n) (k0 + i) (i : Int)) (k0 + n) := by
  intro d
  have hl := marksB_length n k0
  induction d with
  | zero =>
    intro i hd
    refine ev_one fun k => ?_
    simp only [laws_heldByteS.l0]
    rw [if_neg (by omega)]
    have : i = n := by omega
    subst this
    rfl
  | succ d ih =>
    intro i hd
    refine Ev.step (fun k => ?_) (ih (i + 1) (by omega))
    simp only [laws_heldByteS.l0]
    have hr : rd (marksB k0 n) i = (k0 + i) % 256 := by rw [rd_at _ i (by omega), marksB_at]
    rw [if_pos (by omega), if_pos (by omega), if_pos hr, w64 (n := k0 + (i : Int) + 1) (by omega) (by omega), w64 (n := (i : Int) + 1) (by omega) (by omega)]
    have : (k0 + ((i + 1 : Nat) : Int)) = k0 + (i : Int) + 1 := by omega
    rw [this]
    rfl
theorem heldByteS_ev (n : Nat) (k0 : Int) (hn : n ≤ 281474976710656) (h0 : 0 ≤ k0) (h1 : k0 ≤ 4611686018427387903) : Ev (fun k => laws_heldByteS.f k (marksB k0 n) k0) (k0 + n) := by
  simp only [laws_heldByteS.f]
  have e := heldByteS_l0 k0 n (by omega) h0 h1 n 0 (by omega)
  simpa using e
/-! A number's digits. -/
def varOf : Nat → Int → List Int
  | 0, n => [n % 256]
  | f + 1, n => if n ≥ 128 then (n % 128 + 128) :: varOf f (n / 128) else [n % 256]
theorem varOf_length : ∀ (f : Nat) (n : Int), (varOf f n).length ≤ f + 1
  | 0, _ => by simp [varOf]
  | f + 1, n => by
    unfold varOf
    split
    · have := varOf_length f (n / 128)
      simp
      omega
    · simp
def putVar (l : List Int) (n : Int) : List Int × Bool := if 0 ≤ n ∧ n ≤ 4294967295 then (l ++ varOf 4 n, true) else ([], false)
theorem putVar_length (l : List Int) (n : Int) : (putVar l n).1.length ≤ l.length + 5 := by
  unfold putVar
  split
  · have := varOf_length 4 n
    simp
    omega
  · simp
theorem spec_l01Num_eq (n : Int) : spec_l01Num.f n = some (decide (0 ≤ n ∧ n ≤ 4294967295)) := by
  unfold spec_l01Num.f
  by_cases h : n ≥ 0 <;> simp [h]
theorem impl_isNum_eq (n : Int) : impl_isNum.f n = some (decide (0 ≤ n ∧ n ≤ 4294967295)) := by
  unfold impl_isNum.f
  by_cases h : n ≥ 0 <;> simp [h]
theorem spec_PutVar_l0 : ∀ (f : Nat) (n : Int) (x : List Int), 0 ≤ n → n < 128 ^ (f + 1) → n < 4611686018427387904 → x.length + f + 1 < 140737488355328 →
    Ev (fun k => spec_PutVar.l0 k n x) (x ++ varOf f n, true)
  | 0, n, x, h0, h1, _, hx => by
    refine ev_one fun k => ?_
    simp only [spec_PutVar.l0]
    rw [if_neg (by omega), if_pos (by omega)]
    rfl
  | f + 1, n, x, h0, h1, h2, hx => by
    by_cases h : n ≥ 128
    · have e := spec_PutVar_l0 f (n / 128) (x ++ [n % 128 + 128]) (by omega) (by rw [Int.pow_succ] at h1; omega) (by omega) (by simp; omega)
      refine Ev.step (fun k => ?_) (ev_cast e ?_)
      · simp only [spec_PutVar.l0]
        rw [if_pos h, if_pos (by omega), tdiv_pos h0, tmod_pos h0, w64 (n := n / 128) (by omega) (by omega), w64 (n := n % 128 + 128) (by omega) (by omega), show (n % 128 + 128) % 256 = n % 128 + 128 by omega]
      · rw [varOf, if_pos h, List.append_assoc]; first | done | rfl
    · refine ev_one fun k => ?_
      simp only [spec_PutVar.l0]
      rw [if_neg h, if_pos (by omega), varOf, if_neg h]
theorem spec_PutVar_ev (l : List Int) (n : Int) (hl : l.length ≤ 140737488355000) : Ev (fun k => spec_PutVar.f k l n) (putVar l n) := by
  simp only [spec_PutVar.f]
  refine ev_call (spec_l01Num_eq n) ?_
  unfold putVar
  by_cases h : 0 ≤ n ∧ n ≤ 4294967295
  · rw [if_pos h, decide_eq_true h]
    refine ev_pos rfl ?_
    refine ev_call rfl ?_
    refine ev_pos (by simp; omega) ?_
    have e := spec_PutVar_l0 4 n l h.1 (by omega) (by omega) (by omega)
    simpa using e
  · rw [if_neg h, decide_eq_false h]
    exact ev_neg (by simp) (Ev.now _)
theorem impl_PutVar_l0 : ∀ (f : Nat) (n : Int) (x : List Int), 0 ≤ n → n < 128 ^ (f + 1) → n < 4611686018427387904 → x.length + f + 1 < 140737488355328 →
    Ev (fun k => impl_PutVar.l0 k n x) (x ++ varOf f n, true)
  | 0, n, x, h0, h1, _, hx => by
    refine ev_one fun k => ?_
    simp only [impl_PutVar.l0]
    rw [if_neg (by omega), if_pos (by omega)]
    rfl
  | f + 1, n, x, h0, h1, h2, hx => by
    by_cases h : n ≥ 128
    · have e := impl_PutVar_l0 f (n / 128) (x ++ [n % 128 + 128]) (by omega) (by rw [Int.pow_succ] at h1; omega) (by omega) (by simp; omega)
      refine Ev.step (fun k => ?_) (ev_cast e ?_)
      · simp only [impl_PutVar.l0]
        rw [if_pos h, if_pos (by omega), tdiv_pos h0, tmod_pos h0, w64 (n := n / 128) (by omega) (by omega), w64 (n := n % 128 + 128) (by omega) (by omega), show (n % 128 + 128) % 256 = n % 128 + 128 by omega]
      · rw [varOf, if_pos h, List.append_assoc]; first | done | rfl
    · refine ev_one fun k => ?_
      simp only [impl_PutVar.l0]
      rw [if_neg h, if_pos (by omega), varOf, if_neg h]
theorem impl_PutVar_ev (l : List Int) (n : Int) (hl : l.length ≤ 140737488355000) : Ev (fun k => impl_PutVar.f k l n) (putVar l n) := by
  simp only [impl_PutVar.f]
  refine ev_call (impl_isNum_eq n) ?_
  unfold putVar
  by_cases h : 0 ≤ n ∧ n ≤ 4294967295
  · rw [if_pos h, decide_eq_true h]
    refine ev_pos rfl ?_
    refine ev_call (by unfold slices_Clone_byte_byte.f; rw [if_pos (by omega)]) ?_
    exact impl_PutVar_l0 4 n l h.1 (by omega) (by omega) (by omega)
  · rw [if_neg h, decide_eq_false h]
    exact ev_neg (by simp) (Ev.now _)
/-! Signed numbers. -/
def putZig (l : List Int) (n : Int) : List Int × Bool := if -2147483648 ≤ n ∧ n ≤ 2147483647 then (if n ≥ 0 then putVar l (2 * n) else putVar l (-2 * n - 1)) else ([], false)
theorem putZig_length (l : List Int) (n : Int) : (putZig l n).1.length ≤ l.length + 5 := by
  have h1 := putVar_length l (2 * n)
  have h2 := putVar_length l (-2 * n - 1)
  unfold putZig
  split
  · split <;> omega
  · simp
theorem spec_PutZig_ev (l : List Int) (n : Int) (hl : l.length ≤ 140737488355000) (h0 : -9223372036854775808 ≤ n) (h1 : n ≤ 9223372036854775807) : Ev (fun k => spec_PutZig.f k l n) (putZig l n) := by
  simp only [spec_PutZig.f]
  have bad : Ev (fun k => spec_PutZig.j0 k l n true) ([], false) := by
    refine Ev.step (fun k => (by simp only [spec_PutZig.j0]; exact rfl)) ?_
    exact ev_pos (by trivial) (Ev.now _)
  have good (h : -2147483648 ≤ n ∧ n ≤ 2147483647) : Ev (fun k => spec_PutZig.j0 k l n false) (putZig l n) := by
    refine Ev.step (fun k => (by simp only [spec_PutZig.j0]; exact rfl)) ?_
    refine ev_neg (by simp) ?_
    unfold putZig
    rw [if_pos h]
    by_cases hn : n ≥ 0
    · rw [w64 (n := 2 * n) (by omega) (by omega)]
      refine ev_pos hn (Ev.bind (spec_PutVar_ev l (2 * n) hl) (ev_cast (Ev.now _) ?_))
      rw [if_pos hn]
    · rw [w64 (n := -2 * n) (by omega) (by omega), w64 (n := -2 * n - 1) (by omega) (by omega)]
      refine ev_neg hn (Ev.bind (spec_PutVar_ev l (-2 * n - 1) hl) (ev_cast (Ev.now _) ?_))
      rw [if_neg hn]
  by_cases h : -2147483648 ≤ n ∧ n ≤ 2147483647
  · first
      | exact ev_neg (by omega) (by rw [decide_eq_false (by omega)]; exact good h)
  · have hz : putZig l n = ([], false) := by unfold putZig; rw [if_neg h]
    rw [hz]
    first
      | (by_cases hb : n > 2147483647
         · exact ev_pos hb bad
         · exact ev_neg hb (by rw [decide_eq_true (by omega)]; exact bad))
      | (by_cases hb : n < -2147483648
         · exact ev_pos hb bad
         · exact ev_neg hb (by rw [decide_eq_true (by omega)]; exact bad))
theorem impl_PutZig_ev (l : List Int) (n : Int) (hl : l.length ≤ 140737488355000) (h0 : -9223372036854775808 ≤ n) (h1 : n ≤ 9223372036854775807) : Ev (fun k => impl_PutZig.f k l n) (putZig l n) := by
  simp only [impl_PutZig.f]
  have bad : Ev (fun k => impl_PutZig.j0 k l n true) ([], false) := by
    refine Ev.step (fun k => (by simp only [impl_PutZig.j0]; exact rfl)) ?_
    exact ev_pos (by trivial) (Ev.now _)
  have good (h : -2147483648 ≤ n ∧ n ≤ 2147483647) : Ev (fun k => impl_PutZig.j0 k l n false) (putZig l n) := by
    refine Ev.step (fun k => (by simp only [impl_PutZig.j0]; exact rfl)) ?_
    refine ev_neg (by simp) ?_
    unfold putZig
    rw [if_pos h]
    by_cases hn : n ≥ 0
    · rw [w64 (n := 2 * n) (by omega) (by omega)]
      refine ev_pos hn (Ev.bind (impl_PutVar_ev l (2 * n) hl) (ev_cast (Ev.now _) ?_))
      rw [if_pos hn]
    · rw [w64 (n := -2 * n) (by omega) (by omega), w64 (n := -2 * n - 1) (by omega) (by omega)]
      refine ev_neg hn (Ev.bind (impl_PutVar_ev l (-2 * n - 1) hl) (ev_cast (Ev.now _) ?_))
      rw [if_neg hn]
  by_cases h : -2147483648 ≤ n ∧ n ≤ 2147483647
  · first
      | exact ev_neg (by omega) (by rw [decide_eq_false (by omega)]; exact good h)
  · have hz : putZig l n = ([], false) := by unfold putZig; rw [if_neg h]
    rw [hz]
    first
      | (by_cases hb : n > 2147483647
         · exact ev_pos hb bad
         · exact ev_neg hb (by rw [decide_eq_true (by omega)]; exact bad))
      | (by_cases hb : n < -2147483648
         · exact ev_pos hb bad
         · exact ev_neg hb (by rw [decide_eq_true (by omega)]; exact bad))
theorem FnExactPutZig : laws_FnExactPutZig.Pure := by
  intro l n hl hl2 hw hn
  refine Ev.rounds (g := fun k => laws_FnExactPutZig.f k l n) ?_
  simp only [laws_FnExactPutZig.f]
  by_cases h : (l.length : Int) > 1048576
  · exact ev_pos h (Ev.now _)
  refine ev_neg h ?_
  have hp := putZig_length l n
  have t := toByteS_ev l (by omega)
  have hn2 := wf_i64 hn
  have s := spec_PutZig_ev l n (by omega) hn2.1 hn2.2
  have i := impl_PutZig_ev l n (by omega) hn2.1 hn2.2
  have q := eqByteS_ev (putZig l n).1 (by omega)
  have q2 := eqByteS_ev l (by omega)
  have m := markByteS_ev l 1 (by omega) (by omega) (by omega)
  have m2 := markByteS_ev (putZig l n).1 1 (by omega) (by omega) (by omega)
  have d := heldByteS_ev (putZig l n).1.length 1 (by omega) (by omega) (by omega)
  refine Ev.bind t (Ev.bind s (Ev.bind t (Ev.bind i (Ev.bind q ?_))))
  refine ev_pos rfl ?_
  refine Ev.step (fun k => (by simp only [laws_FnExactPutZig.j0]; exact rfl)) ?_
  refine ev_neg (by simp) (Ev.bind t (Ev.bind q2 (ev_pos rfl (Ev.bind m (ev_neg (by simp; omega) (Ev.bind q (ev_pos rfl ?_)))))))
  refine Ev.step (fun k => (by simp only [laws_FnExactPutZig.j1]; exact rfl)) ?_
  refine ev_neg (by simp) (Ev.bind m2 (Ev.bind d (ev_neg (by simp; omega) (ev_pos (by simp) (Ev.bind t (Ev.bind i (Ev.bind q (ev_pos rfl ?_))))))))
  refine Ev.step (fun k => (by simp only [laws_FnExactPutZig.j2]; exact rfl)) ?_
  exact ev_neg (by simp) (Ev.bind d (ev_neg (by simp; omega) (ev_pos (by simp) (Ev.now _))))

end Go.Proofs.Ytcpmdkopbhddkaa.Pure
