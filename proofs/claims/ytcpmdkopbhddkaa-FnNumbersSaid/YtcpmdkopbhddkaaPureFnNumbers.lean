/- Numbers are read as they were written: what PutVar, PutZig and NumText write of the sum of drawn bytes is what GetVar, GetZig and TextNum read; for every list of bytes; no condition. -/
import Derived.Test.YtcpmdkopbhddkaaPFnNumbersx3
import Derived.Test.YtcpmdkopbhddkaaCom
namespace Go.Proofs.Ytcpmdkopbhddkaa.Pure
open Go.RowKit Go.Proofs.Ytcpmdkopbhddkaa.PFnNumbers Go.Proofs.YtcpmdkopbhddkaaW.PrintWords Go.Proofs.YtcpmdkopbhddkaaW.PrintLast Go.Proofs.Ytcpmdkopbhddkaa.Com

theorem impl_isNum_eq (n : Int) : impl_isNum.f n = some (decide (0 ≤ n ∧ n ≤ 4294967295)) := by
  unfold impl_isNum.f
  by_cases h : n ≥ 0 <;> simp [h]
/-! A number's digits. -/
def varOf : Nat → Int → List Int
  | 0, n => [n % 256]
  | f + 1, n => if n ≥ 128 then (n % 128 + 128) :: varOf f (n / 128) else [n % 256]
theorem varOf_length : ∀ (f : Nat) (n : Int), (varOf f n).length ≤ f + 1
  | 0, _ => by simp [varOf]
  | f + 1, n => by
    unfold varOf
    split
    · have := varOf_length f (n / 128)
      simp
      omega
    · simp
def putVar (l : List Int) (n : Int) : List Int × Bool := if 0 ≤ n ∧ n ≤ 4294967295 then (l ++ varOf 4 n, true) else ([], false)
theorem putVar_length (l : List Int) (n : Int) : (putVar l n).1.length ≤ l.length + 5 := by
  unfold putVar
  split
  · have := varOf_length 4 n
    simp
    omega
  · simp
theorem impl_PutVar_l0 : ∀ (f : Nat) (n : Int) (x : List Int), 0 ≤ n → n < 128 ^ (f + 1) → n < 4611686018427387904 → x.length + f + 1 < 140737488355328 →
    Ev (fun k => impl_PutVar.l0 k n x) (x ++ varOf f n, true)
  | 0, n, x, h0, h1, _, hx => by
    refine ev_one fun k => ?_
    simp only [impl_PutVar.l0]
    rw [if_neg (by omega), if_pos (by omega)]
    rfl
  | f + 1, n, x, h0, h1, h2, hx => by
    by_cases h : n ≥ 128
    · have e := impl_PutVar_l0 f (n / 128) (x ++ [n % 128 + 128]) (by omega) (by rw [Int.pow_succ] at h1; omega) (by omega) (by simp; omega)
      refine Ev.step (fun k => ?_) (ev_cast e ?_)
      · simp only [impl_PutVar.l0]
        rw [if_pos h, if_pos (by omega), tdiv_pos h0, tmod_pos h0, w64 (n := n / 128) (by omega) (by omega), w64 (n := n % 128 + 128) (by omega) (by omega), show (n % 128 + 128) % 256 = n % 128 + 128 by omega]
      · rw [varOf, if_pos h, List.append_assoc]; first | done | rfl
    · refine ev_one fun k => ?_
      simp only [impl_PutVar.l0]
      rw [if_neg h, if_pos (by omega), varOf, if_neg h]
theorem impl_PutVar_ev (l : List Int) (n : Int) (hl : l.length ≤ 140737488355000) : Ev (fun k => impl_PutVar.f k l n) (putVar l n) := by
  simp only [impl_PutVar.f]
  refine ev_call (impl_isNum_eq n) ?_
  unfold putVar
  by_cases h : 0 ≤ n ∧ n ≤ 4294967295
  · rw [if_pos h, decide_eq_true h]
    refine ev_pos rfl ?_
    refine ev_call (by unfold slices_Clone_byte_byte.f; rw [if_pos (by omega)]) ?_
    exact impl_PutVar_l0 4 n l h.1 (by omega) (by omega) (by omega)
  · rw [if_neg h, decide_eq_false h]
    exact ev_neg (by simp) (Ev.now _)
/-! Signed numbers. -/
def putZig (l : List Int) (n : Int) : List Int × Bool := if -2147483648 ≤ n ∧ n ≤ 2147483647 then (if n ≥ 0 then putVar l (2 * n) else putVar l (-2 * n - 1)) else ([], false)
theorem putZig_length (l : List Int) (n : Int) : (putZig l n).1.length ≤ l.length + 5 := by
  have h1 := putVar_length l (2 * n)
  have h2 := putVar_length l (-2 * n - 1)
  unfold putZig
  split
  · split <;> omega
  · simp
theorem impl_PutZig_ev (l : List Int) (n : Int) (hl : l.length ≤ 140737488355000) (h0 : -9223372036854775808 ≤ n) (h1 : n ≤ 9223372036854775807) : Ev (fun k => impl_PutZig.f k l n) (putZig l n) := by
  simp only [impl_PutZig.f]
  have bad : Ev (fun k => impl_PutZig.j0 k l n true) ([], false) := by
    refine Ev.step (fun k => (by simp only [impl_PutZig.j0]; exact rfl)) ?_
    exact ev_pos (by trivial) (Ev.now _)
  have good (h : -2147483648 ≤ n ∧ n ≤ 2147483647) : Ev (fun k => impl_PutZig.j0 k l n false) (putZig l n) := by
    refine Ev.step (fun k => (by simp only [impl_PutZig.j0]; exact rfl)) ?_
    refine ev_neg (by simp) ?_
    unfold putZig
    rw [if_pos h]
    by_cases hn : n ≥ 0
    · rw [w64 (n := 2 * n) (by omega) (by omega)]
      refine ev_pos hn (Ev.bind (impl_PutVar_ev l (2 * n) hl) (ev_cast (Ev.now _) ?_))
      rw [if_pos hn]
    · rw [w64 (n := -2 * n) (by omega) (by omega), w64 (n := -2 * n - 1) (by omega) (by omega)]
      refine ev_neg hn (Ev.bind (impl_PutVar_ev l (-2 * n - 1) hl) (ev_cast (Ev.now _) ?_))
      rw [if_neg hn]
  by_cases h : -2147483648 ≤ n ∧ n ≤ 2147483647
  · first
      | exact ev_neg (by omega) (by rw [decide_eq_false (by omega)]; exact good h)
  · have hz : putZig l n = ([], false) := by unfold putZig; rw [if_neg h]
    rw [hz]
    first
      | (by_cases hb : n > 2147483647
         · exact ev_pos hb bad
         · exact ev_neg hb (by rw [decide_eq_true (by omega)]; exact bad))
      | (by_cases hb : n < -2147483648
         · exact ev_pos hb bad
         · exact ev_neg hb (by rw [decide_eq_true (by omega)]; exact bad))
/-! Reading digits: the list of a number's bytes, and what they are worth. -/
def takeVar : Nat → List Int → Option (List Int)
  | 0, _ => none
  | _ + 1, [] => none
  | d + 1, b :: r => if b ≥ 128 then (takeVar d r).map (b :: ·) else some [b]
def valOf : List Int → Int
  | [] => 0
  | b :: r => b % 128 + 128 * valOf r
def lastOf : List Int → Int
  | [] => 0
  | [b] => b
  | _ :: r => lastOf r
def getOf (at_ : Int) : Option (List Int) → Int × Int × Bool
  | none => (0, 0, false)
  | some ds => if valOf ds > 4294967295 ∨ (lastOf ds = 0 ∧ ds.length > 1) then (0, 0, false) else (valOf ds, at_ + ds.length, true)
def getVar (l : List Int) (a : Int) : Int × Int × Bool := if a < 0 then (0, 0, false) else getOf a (takeVar 5 (l.drop a.toNat))
theorem valOf_range : ∀ (ds : List Int), 0 ≤ valOf ds ∧ valOf ds < 128 ^ ds.length
  | [] => by simp [valOf]
  | b :: r => by
    have h := valOf_range r
    have h2 : (128 : Int) ^ (r.length + 1) = 128 ^ r.length * 128 := Int.pow_succ _ _
    simp only [valOf, List.length_cons]
    omega
theorem takeVar_length : ∀ (d : Nat) (l ds : List Int), takeVar d l = some ds → 0 < ds.length ∧ ds.length ≤ d ∧ ds.length ≤ l.length
  | 0, _, _, h => by simp [takeVar] at h
  | d + 1, [], _, h => by simp [takeVar] at h
  | d + 1, b :: r, ds, h => by
    unfold takeVar at h
    split at h
    · obtain ⟨x, hx, rfl⟩ := Option.map_eq_some_iff.1 h
      have := takeVar_length d r x hx
      simp
      omega
    · obtain rfl := Option.some.inj h
      simp
theorem lastOf_cons (b : Int) {r : List Int} (h : 0 < r.length) : lastOf (b :: r) = lastOf r := by
  cases r with
  | nil => simp at h
  | cons c s => rfl
theorem pow128 : ((128 : Int) ^ 5 = 34359738368) ∧ ((128 : Int) ^ 4 = 268435456) ∧ ((128 : Int) ^ 3 = 2097152) ∧ ((128 : Int) ^ 2 = 16384) ∧ ((128 : Int) ^ 1 = 128) ∧ ((128 : Int) ^ 0 = 1) := by decide
theorem pow128_le (d : Nat) (h : d ≤ 5) : 1 ≤ (128 : Int) ^ d ∧ (128 : Int) ^ d ≤ 34359738368 := by
  have : d = 0 ∨ d = 1 ∨ d = 2 ∨ d = 3 ∨ d = 4 ∨ d = 5 := by omega
  rcases this with h | h | h | h | h | h <;> subst h <;> decide
/-- What the program's loop answers from digit i on: n so far, u the digit's unit. -/
def getFrom (a i : Nat) (n u : Int) : Option (List Int) → Int × Int × Bool
  | none => (0, 0, false)
  | some ds => if n + u * valOf ds > 4294967295 ∨ (lastOf ds = 0 ∧ i + ds.length > a + 1) then (0, 0, false) else (n + u * valOf ds, i + ds.length, true)
theorem impl_GetVar_l0 (l : List Int) (hl : l.length ≤ 4611686018427387904) (hx : ∀ x ∈ l, 0 ≤ x ∧ x < 256) (a : Nat) (ha : a ≤ 4611686018427387904) : ∀ (d i : Nat) (n : Int), a + 5 = i + d → a ≤ i → 0 ≤ n → n < 128 ^ (5 - d) →
    Ev (fun k => impl_GetVar.l0 k l (a : Int) n (128 ^ (5 - d)) (i : Int)) (getFrom a i n (128 ^ (5 - d)) (takeVar d (l.drop i))) := by
  intro d
  induction d with
  | zero =>
    intro i n hd hai h0 h1
    refine Ev.step (fun k => (by simp only [impl_GetVar.l0]; exact rfl)) ?_
    have hf : decide ((i : Int) < wrap64 ((a : Int) + 5)) = false := by rw [w64 (by omega) (by omega)]; simp; omega
    have e : Ev (fun k => impl_GetVar.j1 k l (a : Int) n (128 ^ (5 - 0)) (i : Int) false) (0, 0, false) := by
      refine Ev.step (fun k => (by simp only [impl_GetVar.j1]; exact rfl)) ?_
      exact ev_neg (by simp) (Ev.now _)
    by_cases h : (i : Int) < (l.length : Int)
    · refine ev_pos h ?_
      rw [hf]
      exact e
    · exact ev_neg h e
  | succ d ih =>
    intro i n hd hai h0 h1
    refine Ev.step (fun k => (by simp only [impl_GetVar.l0]; exact rfl)) ?_
    by_cases h : (i : Int) < (l.length : Int)
    · refine ev_pos h ?_
      have hf : decide ((i : Int) < wrap64 ((a : Int) + 5)) = true := by rw [w64 (by omega) (by omega)]; simp; omega
      rw [hf]
      refine Ev.step (fun k => (by simp only [impl_GetVar.j1]; exact rfl)) ?_
      refine ev_pos (by trivial) (ev_pos (by omega) (ev_pos h ?_))
      have hi : i < l.length := by omega
      have hm := hx _ (List.getElem_mem hi)
      rw [rd_at l i hi, w64 (n := l[i]) (by omega) (by omega), tmod_pos hm.1]
      have hu := pow128_le (5 - (d + 1)) (by omega)
      have hs : (128 : Int) ^ (5 - d) = 128 ^ (5 - (d + 1)) * 128 := by
        rw [show 5 - d = (5 - (d + 1)) + 1 by omega, Int.pow_succ]
      have hu2 := pow128_le (5 - d) (by omega)
      generalize hU : (128 : Int) ^ (5 - (d + 1)) = u at *
      have hp : 0 ≤ l[i] % 128 * u ∧ l[i] % 128 * u ≤ 127 * u := ⟨Int.mul_nonneg (by omega) (by omega), Int.mul_le_mul_of_nonneg_right (by omega) (by omega)⟩
      rw [w64 (n := l[i] % 128 * u) (by omega) (by omega), w64 (n := n + l[i] % 128 * u) (by omega) (by omega), w64 (n := u * 128) (by omega) (by omega), w64 (n := (i : Int) + 1) (by omega) (by omega)]
      rw [List.drop_eq_getElem_cons hi]
      unfold takeVar
      by_cases hb : l[i] ≥ 128
      · rw [if_pos hb]
        refine ev_pos hb ?_
        have e := ih (i + 1) (n + l[i] % 128 * u) (by omega) (by omega) (by omega) (by omega)
        rw [hs] at e
        refine ev_cast e ?_
        cases ht : takeVar d (l.drop (i + 1)) with
        | none => rfl
        | some ds =>
          have hl := takeVar_length _ _ _ ht
          simp only [getFrom, Option.map_some, valOf, List.length_cons, lastOf_cons _ hl.1]
          have hv : n + l[i] % 128 * u + u * 128 * valOf ds = n + u * (l[i] % 128 + 128 * valOf ds) := by
            rw [Int.mul_add, Int.mul_comm u (l[i] % 128), Int.mul_assoc]
            omega
          simp only [hv]
          generalize n + u * (l[i] % 128 + 128 * valOf ds) = z
          by_cases hc : z > 4294967295 ∨ lastOf ds = 0 ∧ i + (ds.length + 1) > a + 1
          · rw [if_pos (by omega), if_pos hc]
          · rw [if_neg (by omega), if_neg hc, show ((i + 1 : Nat) : Int) + (ds.length : Int) = (i : Int) + ((ds.length + 1 : Nat) : Int) by omega]
      · rw [if_neg hb]
        refine ev_neg hb ?_
        have hv : n + u * (l[i] % 128 + 128 * 0) = n + l[i] % 128 * u := by rw [Int.mul_zero, Int.add_zero, Int.mul_comm u]
        simp only [getFrom, valOf, lastOf, List.length_cons, List.length_nil, hv]
        by_cases hg : n + l[i] % 128 * u > 4294967295
        · exact ev_pos hg (ev_cast (Ev.now _) (by rw [if_pos (Or.inl hg)]))
        · refine ev_neg hg ?_
          by_cases hz : l[i] = 0
          · refine ev_pos hz ?_
            by_cases hk : (i : Int) > (a : Int)
            · exact ev_pos hk (ev_cast (Ev.now _) (by rw [if_pos (Or.inr ⟨hz, by omega⟩)]))
            · exact ev_neg hk (ev_cast (Ev.now _) (by rw [if_neg (by omega)]; rfl))
          · exact ev_neg hz (ev_cast (Ev.now _) (by rw [if_neg (by omega)]; rfl))
    · refine ev_neg h ?_
      refine Ev.step (fun k => (by simp only [impl_GetVar.j1]; exact rfl)) ?_
      rw [List.drop_of_length_le (by omega)]
      exact ev_neg (by simp) (Ev.now _)
theorem impl_GetVar_ev (l : List Int) (a : Int) (hl : l.length ≤ 4611686018427387904) (hx : ∀ x ∈ l, 0 ≤ x ∧ x < 256) (ha : a ≤ 9223372036854775807) : Ev (fun k => impl_GetVar.f k l a) (getVar l a) := by
  simp only [impl_GetVar.f]
  unfold getVar
  by_cases h0 : a < 0
  · rw [if_pos h0]
    exact ev_pos h0 (Ev.now _)
  · rw [if_neg h0]
    refine ev_neg h0 ?_
    by_cases h1 : a < l.length
    · have e := impl_GetVar_l0 l hl hx a.toNat (by omega) 5 a.toNat 0 (by omega) (by omega) (by omega) (by decide)
      rw [show ((a.toNat : Nat) : Int) = a by omega] at e
      refine ev_cast e ?_
      cases takeVar 5 (l.drop a.toNat) with
      | none => rfl
      | some ds =>
        simp only [getFrom, getOf]
        rw [show (0 : Int) + 128 ^ (5 - 5) * valOf ds = valOf ds by simp, show (a.toNat : Int) = a by omega]
        by_cases hc : valOf ds > 4294967295 ∨ lastOf ds = 0 ∧ ds.length > 1
        · rw [if_pos (by omega), if_pos hc]
        · rw [if_neg (by omega), if_neg hc]
    · rw [List.drop_of_length_le (by omega)]
      refine Ev.step (fun k => (by simp only [impl_GetVar.l0]; exact rfl)) ?_
      refine ev_neg (by omega) ?_
      refine Ev.step (fun k => (by simp only [impl_GetVar.j1]; exact rfl)) ?_
      exact ev_neg (by simp) (Ev.now _)
/-! A valid list of digits is written again just where its last one counts. -/
def Digits : List Int → Prop
  | [] => False
  | [b] => 0 ≤ b ∧ b < 128
  | b :: c :: r => 128 ≤ b ∧ b < 256 ∧ Digits (c :: r)
theorem takeVar_digits : ∀ (d : Nat) (l ds : List Int), (∀ x ∈ l, 0 ≤ x ∧ x < 256) → takeVar d l = some ds → Digits ds ∧ ds = l.take ds.length
  | 0, _, _, _, h => by simp [takeVar] at h
  | d + 1, [], _, _, h => by simp [takeVar] at h
  | d + 1, b :: r, ds, hx, h => by
    have hb := hx b List.mem_cons_self
    unfold takeVar at h
    split at h
    · obtain ⟨x, hx2, rfl⟩ := Option.map_eq_some_iff.1 h
      obtain ⟨h1, h2⟩ := takeVar_digits d r x (fun y hy => hx y (List.mem_cons_of_mem _ hy)) hx2
      cases x with
      | nil => exact absurd h1 (by simp [Digits])
      | cons c s => exact ⟨⟨by omega, hb.2, h1⟩, by rw [List.length_cons, List.take_succ_cons, ← h2]⟩
    · obtain rfl := Option.some.inj h
      exact ⟨⟨hb.1, by omega⟩, by simp⟩
theorem varOf_valOf : ∀ (f : Nat) (ds : List Int), Digits ds → ds.length ≤ f + 1 → (varOf f (valOf ds) = ds ↔ ¬ (lastOf ds = 0 ∧ ds.length > 1))
  | _, [], h, _ => by simp [Digits] at h
  | 0, [b], h, _ => by
    have h' : 0 ≤ b ∧ b < 128 := h
    simp [varOf, valOf]
    omega
  | f + 1, [b], h, _ => by
    have h' : 0 ≤ b ∧ b < 128 := h
    have : valOf [b] = b := by simp [valOf]; omega
    rw [this, varOf, if_neg (by omega), show b % 256 = b by omega]
    simp
  | 0, b :: c :: r, _, hl => by simp at hl
  | f + 1, b :: c :: r, h, hl => by
    obtain ⟨hb0, hb1, hr⟩ := h
    have ih := varOf_valOf f (c :: r) hr (by simp at hl ⊢; omega)
    have hv := valOf_range (c :: r)
    have hl2 : lastOf (b :: c :: r) = lastOf (c :: r) := lastOf_cons b (by simp)
    have hval : valOf (b :: c :: r) = b % 128 + 128 * valOf (c :: r) := rfl
    rw [hl2, hval, varOf]
    by_cases hbig : b % 128 + 128 * valOf (c :: r) ≥ 128
    · rw [if_pos hbig, show (b % 128 + 128 * valOf (c :: r)) % 128 + 128 = b by omega, show (b % 128 + 128 * valOf (c :: r)) / 128 = valOf (c :: r) by omega]
      rw [List.cons.injEq]
      simp only [true_and]
      rw [ih]
      cases r with
      | nil =>
        have hc : 0 ≤ c ∧ c < 128 := hr
        have : valOf [c] = c := by simp [valOf]; omega
        rw [this] at hbig
        simp only [lastOf, List.length_cons, List.length_nil]
        omega
      | cons e s =>
        simp only [List.length_cons]
        constructor <;> intro h1 h2 <;> exact h1 ⟨h2.1, by omega⟩
    · rw [if_neg hbig]
      have hz : valOf (c :: r) = 0 := by omega
      have hlast : lastOf (c :: r) = 0 := by
        have : ∀ (l : List Int), Digits l → valOf l = 0 → lastOf l = 0 := by
          intro l
          induction l with
          | nil => intro _ _; rfl
          | cons x s ihl =>
            intro hd hv0
            cases s with
            | nil =>
              have hx : 0 ≤ x ∧ x < 128 := hd
              have : valOf [x] = x := by simp [valOf]; omega
              simp only [lastOf]
              omega
            | cons y t =>
              have hr2 := valOf_range (y :: t)
              have hv1 : valOf (x :: y :: t) = x % 128 + 128 * valOf (y :: t) := rfl
              exact ihl hd.2.2 (by omega)
        exact this _ hr hz
      simp [hlast]
theorem map_inj : ∀ (a b : List Int), (∀ x ∈ a, 0 ≤ x ∧ x < 256) → (∀ x ∈ b, 0 ≤ x ∧ x < 256) → a.map (fun n => UInt8.ofNat n.toNat) = b.map (fun n => UInt8.ofNat n.toNat) → a = b
  | [], [], _, _, _ => rfl
  | [], _ :: _, _, _, h => by simp at h
  | _ :: _, [], _, _, h => by simp at h
  | x :: a, y :: b, ha, hb, h => by
    rw [List.map_cons, List.map_cons, List.cons.injEq] at h
    have h1 := ha x List.mem_cons_self
    have h2 := hb y List.mem_cons_self
    have e := congrArg UInt8.toNat h.1
    rw [UInt8.toNat_ofNat', UInt8.toNat_ofNat'] at e
    rw [Nat.mod_eq_of_lt (by omega), Nat.mod_eq_of_lt (by omega)] at e
    rw [map_inj a b (fun z hz => ha z (List.mem_cons_of_mem _ hz)) (fun z hz => hb z (List.mem_cons_of_mem _ hz)) h.2, show x = y by omega]
theorem str_inj (a b : List Int) (ha : ∀ x ∈ a, 0 ≤ x ∧ x < 256) (hb : ∀ x ∈ b, 0 ≤ x ∧ x < 256) : (strOfNums a).toList = (strOfNums b).toList ↔ a = b := by
  constructor
  · intro h
    unfold strOfNums at h
    rw [Go.ByteArray.toList_mk, Go.ByteArray.toList_mk] at h
    exact map_inj a b ha hb h
  · intro h
    rw [h]
theorem varOf_bytes : ∀ (f : Nat) (n : Int), 0 ≤ n → n < 128 ^ (f + 1) → ∀ x ∈ varOf f n, 0 ≤ x ∧ x < 256
  | 0, n, h0, h1, x, hx => by
    simp [varOf] at hx
    omega
  | f + 1, n, h0, h1, x, hx => by
    unfold varOf at hx
    split at hx
    · rcases List.mem_cons.1 hx with h | h
      · omega
      · exact varOf_bytes f (n / 128) (by omega) (by rw [Int.pow_succ] at h1; omega) x h
    · simp at hx
      omega
/-! Digits that were put are got again. -/
theorem varOf_take : ∀ (f : Nat) (n : Int), 0 ≤ n → n < 128 ^ (f + 1) → takeVar (f + 1) (varOf f n) = some (varOf f n) ∧ valOf (varOf f n) = n
  | 0, n, h0, h1 => by
    have : ¬ n % 256 ≥ 128 := by omega
    simp [varOf, takeVar, valOf, this]
    omega
  | f + 1, n, h0, h1 => by
    unfold varOf
    by_cases h : n ≥ 128
    · rw [if_pos h]
      obtain ⟨i1, i2⟩ := varOf_take f (n / 128) (by omega) (by rw [Int.pow_succ] at h1; omega)
      refine ⟨?_, ?_⟩
      · rw [takeVar, if_pos (by omega), i1]
        rfl
      · simp only [valOf, i2]
        omega
    · rw [if_neg h]
      refine ⟨?_, ?_⟩
      · rw [takeVar, if_neg (by omega)]
      · simp [valOf]
        omega
theorem getVar_putVar (b : List Int) (n : Int) (h0 : 0 ≤ n) (h1 : n ≤ 4294967295) : getVar (b ++ varOf 4 n) (b.length : Int) = (n, ((b ++ varOf 4 n).length : Int), true) := by
  have hv := varOf_take 4 n h0 (by omega)
  have hl := varOf_length 4 n
  have hb := varOf_bytes 4 n h0 (by omega)
  have hd := takeVar_digits 5 _ _ hb hv.1
  have hc := varOf_valOf 4 _ hd.1 hl
  rw [hv.2] at hc
  unfold getVar
  rw [if_neg (by omega), show ((b.length : Int)).toNat = b.length by omega, List.drop_left, hv.1]
  simp only [getOf]
  rw [hv.2, if_neg (fun h => h.elim (fun h => by omega) (fun h => hc.1 rfl h))]
  simp
def zigOf (x : Int × Int × Bool) : Int × Int × Bool := (if x.1 % 2 = 1 then -((x.1 + 1) / 2) else x.1 / 2, x.2.1, x.2.2)
theorem getVar_range (l : List Int) (a : Int) : 0 ≤ (getVar l a).1 ∧ (getVar l a).1 ≤ 4294967295 ∧ ((getVar l a).2.2 = false → getVar l a = (0, 0, false)) := by
  unfold getVar
  split
  · simp
  · cases ht : takeVar 5 (l.drop a.toNat) with
    | none => simp [getOf]
    | some ds =>
      have := valOf_range ds
      simp only [getOf]
      split <;> simp <;> omega
theorem impl_GetZig_ev (l : List Int) (a : Int) (hl : l.length ≤ 140737488355000) (hx : ∀ x ∈ l, 0 ≤ x ∧ x < 256) (ha : a ≤ 9223372036854775807) : Ev (fun k => impl_GetZig.f k l a) (zigOf (getVar l a)) := by
  simp only [impl_GetZig.f]
  refine Ev.bind (impl_GetVar_ev l a (by omega) hx ha) ?_
  have h := getVar_range l a
  unfold zigOf
  rw [tmod_pos h.1, tdiv_pos h.1, w64 (n := (getVar l a).1 + 1) (by omega) (by omega), w64 (n := -((getVar l a).1 + 1)) (by omega) (by omega), w64 (n := (getVar l a).1 / 2) (by omega) (by omega), Int.neg_tdiv, tdiv_pos (x := (getVar l a).1 + 1) (by omega), w64 (n := -(((getVar l a).1 + 1) / 2)) (by omega) (by omega)]
  by_cases hm : (getVar l a).1 % 2 = 1
  · exact ev_pos hm (ev_cast (Ev.now _) (by rw [if_pos hm]))
  · exact ev_neg hm (ev_cast (Ev.now _) (by rw [if_neg hm]))
/-! The sum of bytes: both programs make the same steps. -/
def crcBit (r : Int) : Int := if r % 2 = 1 then Go.bits .xor .i64 (r / 2) 3988292384 else r / 2
def crcBits : Nat → Int → Int
  | 0, r => r
  | n + 1, r => crcBits n (crcBit r)
def crcAll : List Int → Int → Int
  | [], r => r
  | x :: xs, r => crcAll xs (crcBits 8 (Go.bits .xor .i64 r x))
def crcOf (l : List Int) : Int := Go.bits .xor .i64 (crcAll l 4294967295) 4294967295
theorem crcBit_range {r : Int} (h0 : 0 ≤ r) (h1 : r < 4294967296) : 0 ≤ crcBit r ∧ crcBit r < 4294967296 := by
  unfold crcBit
  split
  · exact xor32 (by omega) (by omega) (by omega) (by omega)
  · omega
theorem crcBits_range : ∀ (n : Nat) {r : Int}, 0 ≤ r → r < 4294967296 → 0 ≤ crcBits n r ∧ crcBits n r < 4294967296
  | 0, _, h0, h1 => ⟨h0, h1⟩
  | n + 1, _, h0, h1 => crcBits_range n (crcBit_range h0 h1).1 (crcBit_range h0 h1).2
theorem crcAll_range : ∀ (l : List Int) {r : Int}, (∀ x ∈ l, 0 ≤ x ∧ x < 256) → 0 ≤ r → r < 4294967296 → 0 ≤ crcAll l r ∧ crcAll l r < 4294967296
  | [], _, _, h0, h1 => ⟨h0, h1⟩
  | x :: xs, _, hx, h0, h1 => by
    have hx' := hx x List.mem_cons_self
    have h := xor32 h0 h1 hx'.1 (by omega)
    have h2 := crcBits_range 8 h.1 h.2
    exact crcAll_range xs (fun y hy => hx y (List.mem_cons_of_mem _ hy)) h2.1 h2.2
theorem crcOf_range {l : List Int} (h : ∀ x ∈ l, 0 ≤ x ∧ x < 256) : 0 ≤ crcOf l ∧ crcOf l < 4294967296 := by
  have h1 := crcAll_range l h (r := 4294967295) (by omega) (by omega)
  exact xor32 h1.1 h1.2 (by omega) (by omega)
theorem impl_Crc_l1 (x0 : List Int) (n i : Int) (v : Int) : ∀ (d j : Nat) (r : Int), j + d = 8 → 0 ≤ r → r < 4294967296 →
    Ev (fun k => impl_Crc.l0 k (crcBits d r) x0 n (wrap64 (i + 1))) v → Ev (fun k => impl_Crc.l1 k r x0 n i (j : Int)) v := by
  intro d
  induction d with
  | zero =>
    intro j r hj h0 h1 e
    refine Ev.step (fun k => ?_) e
    simp only [impl_Crc.l1]
    rw [if_neg (by omega)]
    rfl
  | succ d ih =>
    intro j r hj h0 h1 e
    have hr := crcBit_range h0 h1
    refine Ev.step (fun k => ?_) (ih (j + 1) (crcBit r) (by omega) hr.1 hr.2 e)
    simp only [impl_Crc.l1]
    rw [if_pos (by omega), and_one h0 (by omega), w64 (n := (j : Int) + 1) (by omega) (by omega)]
    unfold crcBit
    split <;> rfl
theorem impl_Crc_l0 (x0 : List Int) (hb : x0.length ≤ 4611686018427387904) (hx : ∀ x ∈ x0, 0 ≤ x ∧ x < 256) : ∀ (d i : Nat) (r : Int), i + d = x0.length → 0 ≤ r → r < 4294967296 →
    Ev (fun k => impl_Crc.l0 k r x0 (x0.length : Int) (i : Int)) (Go.bits .xor .i64 (crcAll (x0.drop i) r) 4294967295) := by
  intro d
  induction d with
  | zero =>
    intro i r hd h0 h1
    refine ev_one fun k => ?_
    simp only [impl_Crc.l0]
    rw [if_neg (by omega), List.drop_of_length_le (by omega)]
    rfl
  | succ d ih =>
    intro i r hd h0 h1
    have hi : i < x0.length := by omega
    have hm := hx _ (List.getElem_mem hi)
    have hx2 := xor32 h0 h1 hm.1 (by omega)
    have hx3 := crcBits_range 8 hx2.1 hx2.2
    have e := ih (i + 1) _ (by omega) hx3.1 hx3.2
    have hrd : rd x0 i = x0[i] := rd_at x0 i hi
    rw [List.drop_eq_getElem_cons hi]
    refine Ev.step (fun k => ?_) (impl_Crc_l1 x0 x0.length i _ 8 0 (Go.bits .xor .i64 r x0[i]) rfl hx2.1 hx2.2 ?_)
    · simp only [impl_Crc.l0]
      rw [if_pos (by omega), if_pos (by omega), if_pos (by omega), hrd, w64 (by omega) (by omega)]
      rfl
    · rw [w64 (by omega) (by omega)]
      exact e
theorem impl_Crc_ev (l : List Int) (hb : l.length ≤ 4611686018427387904) (hx : ∀ x ∈ l, 0 ≤ x ∧ x < 256) : Ev (fun k => impl_Crc.f k l) (crcOf l) := by
  simp only [impl_Crc.f]
  exact impl_Crc_l0 l hb hx l.length 0 4294967295 (by omega) (by omega) (by omega)
/-! Decimal digits. -/
def dig (d : Nat) : UInt8 := UInt8.ofNat (48 + d)
def numL : Nat → Nat → List UInt8
  | 0, n => [dig (n % 10)]
  | f + 1, n => if n < 10 then [dig n] else numL f (n / 10) ++ [dig (n % 10)]
theorem numL_length : ∀ (f n : Nat), (numL f n).length ≤ f + 1
  | 0, _ => by simp [numL]
  | f + 1, n => by
    unfold numL
    split
    · simp
    · have := numL_length f (n / 10)
      simp
      omega
def numS (n : Int) : ByteArray := if 0 ≤ n ∧ n ≤ 4294967295 then ⟨(numL 9 n.toNat).toArray⟩ else ⟨#[]⟩
theorem str_dig (d : Int) (h0 : 0 ≤ d) (h1 : d < 10) : strOfNums [wrap64 (48 + d) % 256] = ⟨#[dig d.toNat]⟩ := by
  have : d = 0 ∨ d = 1 ∨ d = 2 ∨ d = 3 ∨ d = 4 ∨ d = 5 ∨ d = 6 ∨ d = 7 ∨ d = 8 ∨ d = 9 := by omega
  rcases this with h | h | h | h | h | h | h | h | h | h <;> subst h <;> decide +kernel
theorem utf_dig (d : Int) (h0 : 0 ≤ d) (h1 : d < 10) : Utf8.encode (wrap32 (wrap64 (48 + d))) = ⟨#[dig d.toNat]⟩ := by
  have : d = 0 ∨ d = 1 ∨ d = 2 ∨ d = 3 ∨ d = 4 ∨ d = 5 ∨ d = 6 ∨ d = 7 ∨ d = 8 ∨ d = 9 := by omega
  rcases this with h | h | h | h | h | h | h | h | h | h <;> subst h <;> decide +kernel
theorem bytes_app (l m : List UInt8) : (⟨l.toArray⟩ : ByteArray) ++ (⟨m.toArray⟩ : ByteArray) = ⟨(l ++ m).toArray⟩ := by
  apply ByteArray.ext
  rw [ByteArray.data_append]
  simp
theorem mk_size (l : List UInt8) : (⟨l.toArray⟩ : ByteArray).size = l.length := by
  simp [ByteArray.size]
theorem impl_NumText_in : ∀ (f : Nat) (n : Int), f ≤ 9 → 0 ≤ n → n ≤ 4294967295 → n < 10 ^ (f + 1) → Ev (fun k => impl_NumText.f k n) ⟨(numL f n.toNat).toArray⟩
  | 0, n, _, h0, h1, h2 => by
    refine Ev.step (fun k => (by simp only [impl_NumText.f]; exact rfl)) ?_
    refine ev_call (impl_isNum_eq n) ?_
    refine ev_pos (by simp; omega) (ev_pos (by omega) ?_)
    rw [utf_dig n h0 (by omega)]
    refine ev_cast (Ev.now _) ?_
    rw [numL, Nat.mod_eq_of_lt (by omega)]
  | f + 1, n, hf, h0, h1, h2 => by
    refine Ev.step (fun k => (by simp only [impl_NumText.f]; exact rfl)) ?_
    refine ev_call (impl_isNum_eq n) ?_
    refine ev_pos (by simp; omega) ?_
    by_cases h : n < 10
    · refine ev_pos h ?_
      rw [utf_dig n h0 (by omega)]
      refine ev_cast (Ev.now _) ?_
      rw [numL, if_pos (by omega)]
    · refine ev_neg h ?_
      rw [tdiv_pos h0, tmod_pos h0, w64 (n := n / 10) (by omega) (by omega)]
      refine Ev.bind (impl_NumText_in f (n / 10) (by omega) (by omega) (by omega) (by rw [Int.pow_succ] at h2; omega)) ?_
      rw [utf_dig (n % 10) (by omega) (by omega)]
      have hs := numL_length f (n / 10).toNat
      have hz := mk_size (numL f (n / 10).toNat)
      have hd := mk_size [dig (n % 10).toNat]
      refine ev_pos (by rw [hz, hd]; simp only [List.length_singleton]; omega) ?_
      refine ev_cast (Ev.now _) ?_
      rw [bytes_app, numL, if_neg (by omega), show (n / 10).toNat = n.toNat / 10 by omega, show (n % 10).toNat = n.toNat % 10 by omega]
theorem impl_NumText_ev (n : Int) : Ev (fun k => impl_NumText.f k n) (numS n) := by
  unfold numS
  by_cases h : 0 ≤ n ∧ n ≤ 4294967295
  · rw [if_pos h]
    exact impl_NumText_in 9 n (by omega) h.1 h.2 (by omega)
  · rw [if_neg h]
    refine Ev.step (fun k => (by simp only [impl_NumText.f]; exact rfl)) ?_
    refine ev_call (impl_isNum_eq n) ?_
    exact ev_neg (by simp; omega) (Ev.now _)
/-! Numbers out of their digits. -/
def tnLoop (s : ByteArray) : Nat → Nat → Int → Int × Bool
  | 0, _, x => if (numS x).toList = s.toList then (x, true) else (0, false)
  | d + 1, i, x => if bt s i < 48 then (0, false) else if bt s i > 57 then (0, false) else tnLoop s d (i + 1) (x * 10 + (bt s i - 48))
def textNum (s : ByteArray) : Int × Bool := if s.size < 1 ∨ s.size > 10 then (0, false) else tnLoop s s.size 0 0
theorem pow10_le (i : Nat) (h : i ≤ 10) : (10 : Int) ^ i ≤ 10000000000 := by
  have : i = 0 ∨ i = 1 ∨ i = 2 ∨ i = 3 ∨ i = 4 ∨ i = 5 ∨ i = 6 ∨ i = 7 ∨ i = 8 ∨ i = 9 ∨ i = 10 := by omega
  rcases this with h | h | h | h | h | h | h | h | h | h | h <;> subst h <;> decide
theorem impl_TextNum_l0 (s : ByteArray) (hs : s.size ≤ 10) : ∀ (d i : Nat) (x : Int), i + d = s.size → 0 ≤ x → x < 10 ^ i →
    Ev (fun k => impl_TextNum.l0 k s x (s.size : Int) (i : Int)) (tnLoop s d i x) := by
  intro d
  induction d with
  | zero =>
    intro i x hd h0 h1
    refine Ev.step (fun k => (by simp only [impl_TextNum.l0]; exact rfl)) ?_
    refine ev_neg (by omega) (Ev.bind (impl_NumText_ev x) ?_)
    unfold tnLoop
    by_cases h : (numS x).toList = s.toList
    · exact ev_pos h (ev_cast (Ev.now _) (by rw [if_pos h]))
    · exact ev_neg h (ev_cast (Ev.now _) (by rw [if_neg h]))
  | succ d ih =>
    intro i x hd h0 h1
    refine Ev.step (fun k => (by simp only [impl_TextNum.l0]; exact rfl)) ?_
    refine ev_pos (by omega) (ev_pos (by omega) (ev_pos (by omega) ?_))
    unfold tnLoop
    by_cases ha : bt s i < 48
    · rw [if_pos ha]; exact ev_pos ha (Ev.now _)
    · rw [if_neg ha]
      refine ev_neg ha ?_
      by_cases hb : bt s i > 57
      · rw [if_pos hb]; exact ev_pos hb (Ev.now _)
      · rw [if_neg hb]
        refine ev_neg hb ?_
        have hp := pow10_le i (by omega)
        have h2 : (10 : Int) ^ (i + 1) = 10 ^ i * 10 := Int.pow_succ _ _
        rw [Int.mul_comm 10 x, w64 (n := x * 10) (by omega) (by omega), show (bt s i - 48) % 256 = bt s i - 48 by omega, w64 (n := x * 10 + (bt s i - 48)) (by omega) (by omega), w64 (n := (i : Int) + 1) (by omega) (by omega)]
        exact ih (i + 1) (x * 10 + (bt s i - 48)) (by omega) (by omega) (by omega)
theorem impl_TextNum_ev (s : ByteArray) : Ev (fun k => impl_TextNum.f k s) (textNum s) := by
  have hl := toList_size s
  simp only [impl_TextNum.f]
  unfold textNum
  by_cases h0 : s.size < 1
  · rw [if_pos (Or.inl h0)]
    refine ev_pos (List.length_eq_zero_iff.1 (by omega)) ?_
    refine Ev.step (fun k => (by simp only [impl_TextNum.j0]; exact rfl)) ?_
    exact ev_pos (by trivial) (Ev.now _)
  · refine ev_neg (fun h => by rw [h] at hl; simp at hl; omega) ?_
    by_cases h1 : s.size > 10
    · rw [if_pos (Or.inr h1), decide_eq_true (show (s.size : Int) > 10 by omega)]
      refine Ev.step (fun k => (by simp only [impl_TextNum.j0]; exact rfl)) ?_
      exact ev_pos (by trivial) (Ev.now _)
    · rw [if_neg (by omega), decide_eq_false (show ¬ (s.size : Int) > 10 by omega)]
      refine Ev.step (fun k => (by simp only [impl_TextNum.j0]; exact rfl)) ?_
      exact ev_neg (by simp) (impl_TextNum_l0 s (by omega) s.size 0 0 (by omega) (by omega) (by simp))
/-! Digits that were written are read again. -/
def foldD (x : Int) (l : List UInt8) : Int := l.foldl (fun x c => x * 10 + ((c.toNat : Int) - 48)) x
theorem dig_toNat (d : Nat) (h : d < 10) : (dig d).toNat = 48 + d := by
  unfold dig
  rw [UInt8.toNat_ofNat']
  omega
theorem numL_digits : ∀ (f n : Nat), n < 10 ^ (f + 1) → ∀ c ∈ numL f n, 48 ≤ c.toNat ∧ c.toNat ≤ 57
  | 0, n, h, c, hc => by
    simp [numL] at hc
    subst hc
    rw [dig_toNat _ (by omega)]
    omega
  | f + 1, n, h, c, hc => by
    unfold numL at hc
    split at hc
    · simp at hc
      subst hc
      rw [dig_toNat _ (by omega)]
      omega
    · rcases List.mem_append.1 hc with h1 | h1
      · exact numL_digits f (n / 10) (by rw [Nat.pow_succ] at h; omega) c h1
      · simp at h1
        subst h1
        rw [dig_toNat _ (by omega)]
        omega
theorem foldD_numL : ∀ (f n : Nat), n < 10 ^ (f + 1) → foldD 0 (numL f n) = (n : Int)
  | 0, n, h => by
    simp only [numL, foldD, List.foldl_cons, List.foldl_nil]
    rw [dig_toNat _ (by omega)]
    omega
  | f + 1, n, h => by
    unfold numL
    split
    · simp only [foldD, List.foldl_cons, List.foldl_nil]
      rw [dig_toNat _ (by omega)]
      omega
    · have ih := foldD_numL f (n / 10) (by rw [Nat.pow_succ] at h; omega)
      unfold foldD at ih ⊢
      rw [List.foldl_append, ih]
      simp only [List.foldl_cons, List.foldl_nil]
      rw [dig_toNat _ (by omega)]
      omega
theorem bt_mk (L : List UInt8) (i : Nat) (h : i < L.length) : bt ⟨L.toArray⟩ (i : Int) = (L[i].toNat : Int) := by
  unfold bt
  have hs : (⟨L.toArray⟩ : ByteArray).size = L.length := mk_size L
  rw [dif_pos (by rw [hs]; omega)]
  rfl
theorem tnLoop_digits (L : List UInt8) (hL : ∀ c ∈ L, 48 ≤ c.toNat ∧ c.toNat ≤ 57) : ∀ (d i : Nat) (x : Int), i + d = L.length →
    tnLoop ⟨L.toArray⟩ d i x = if (numS (foldD x (L.drop i))).toList = (⟨L.toArray⟩ : ByteArray).toList then (foldD x (L.drop i), true) else (0, false)
  | 0, i, x, h => by
    rw [List.drop_of_length_le (by omega)]
    rfl
  | d + 1, i, x, h => by
    have hi : i < L.length := by omega
    have hc := hL _ (List.getElem_mem hi)
    have hb := bt_mk L i hi
    unfold tnLoop
    rw [hb, if_neg (by omega), if_neg (by omega), tnLoop_digits L hL d (i + 1) _ (by omega), List.drop_eq_getElem_cons hi]
    rfl
theorem numS_list (n : Int) (h0 : 0 ≤ n) (h1 : n ≤ 4294967295) : numS n = ⟨(numL 9 n.toNat).toArray⟩ := by
  unfold numS
  rw [if_pos ⟨h0, h1⟩]
theorem numL_ne_nil (f n : Nat) : numL f n ≠ [] := by
  cases f with
  | zero => simp [numL]
  | succ f =>
    unfold numL
    split <;> simp
theorem textNum_numS (n : Int) (h0 : 0 ≤ n) (h1 : n ≤ 4294967295) : textNum (numS n) = (n, true) := by
  have hb : n.toNat < 10 ^ (9 + 1) := by
    have : (10 : Nat) ^ (9 + 1) = 10000000000 := by decide
    omega
  have hl := numL_length 9 n.toNat
  have hne := List.length_pos_iff.2 (numL_ne_nil 9 n.toNat)
  rw [numS_list n h0 h1]
  unfold textNum
  rw [mk_size, if_neg (by omega), tnLoop_digits _ (numL_digits 9 _ hb) _ 0 0 (by omega), List.drop_zero, foldD_numL 9 _ hb, show ((n.toNat : Nat) : Int) = n by omega, numS_list n h0 h1, if_pos rfl]
/-! What is drawn: some bytes. -/
theorem and255 (x : Int) : 0 ≤ Go.bits .and .i64 x 255 ∧ Go.bits .and .i64 x 255 ≤ 255 := by
  have h1 : (BitVec.ofInt 64 255).toNat = 255 := by decide
  have h2 : (BitVec.ofInt 64 x &&& BitVec.ofInt 64 255).toNat ≤ 255 := by
    rw [BitVec.toNat_and, h1]
    exact Nat.and_le_right
  have e : Go.bits .and .i64 x 255 = Go.IntKind.i64.wrap ((BitVec.ofInt 64 x &&& BitVec.ofInt 64 255).toNat : Int) := rfl
  rw [e, Go.IntKind.wrap_i64]
  omega
theorem new_ev (l : List Int) : ∃ h : Int, Ev (fun k => spec_l01New.f k l) (l, 0, h) := by
  have key : ∀ (d i : Nat) (x : Int), i + d = l.length → ∃ h : Int, Ev (fun k => spec_l01New.l0 k l x (i : Int)) (l, 0, h) := by
    intro d
    induction d with
    | zero =>
      intro i x hd
      refine ⟨x, ?_⟩
      refine Ev.step (fun k => (by simp only [spec_l01New.l0]; exact rfl)) ?_
      exact ev_neg (by omega) (Ev.now _)
    | succ d ih =>
      intro i x hd
      by_cases h4 : (i : Int) < 4000
      · obtain ⟨h, e⟩ := ih (i + 1) (Go.bits .and .i64 (wrap64 ((wrap64 ((wrap64 (x * 163)) + (wrap64 (rd l (i : Int))))) + 7)) 1073741823) (by omega)
        refine ⟨h, ?_⟩
        refine Ev.step (fun k => (by simp only [spec_l01New.l0]; exact rfl)) ?_
        refine ev_pos (by omega) (ev_pos h4 (ev_pos (by omega) ?_))
        rw [w64 (n := (i : Int) + 1) (by omega) (by omega)]
        exact e
      · refine ⟨x, ?_⟩
        refine Ev.step (fun k => (by simp only [spec_l01New.l0]; exact rfl)) ?_
        exact ev_pos (by omega) (ev_neg h4 (Ev.now _))
  simp only [spec_l01New.f]
  exact key l.length 0 _ (by omega)
theorem byte_some (l : List Int) (p h : Int) (hp : 0 ≤ p) (hl : l.length ≤ 1048576) (hp2 : p ≤ 1048576) : ∃ x p' h' : Int, spec_l01Byte.f l p h = some (x, p', h') ∧ 0 ≤ x ∧ x ≤ 255 ∧ 0 ≤ p' ∧ p' ≤ 1048576 := by
  unfold spec_l01Byte.f
  by_cases hlt : p < (l.length : Int)
  · rw [if_pos hlt, if_pos hp]
    refine ⟨_, _, _, rfl, (and255 _).1, (and255 _).2, ?_⟩
    rw [w64 (by omega) (by omega)]
    omega
  · rw [if_neg hlt]
    exact ⟨_, _, _, rfl, (and255 _).1, (and255 _).2, hp, hp2⟩
theorem bytes_ev (l : List Int) (hl : l.length ≤ 1048576) : ∀ (d i : Nat) (n : Nat) (out : List Int) (p h : Int), i + d = n → n ≤ 300 → out.length = i → 0 ≤ p → p ≤ 1048576 → (∀ x ∈ out, 0 ≤ x ∧ x < 256) →
    ∃ (b : List Int) (p' h' : Int), Ev (fun k => spec_l01Bytes.l0 k (n : Int) out (i : Int) l p h) (b, p', h') ∧ b.length = n ∧ (∀ x ∈ b, 0 ≤ x ∧ x < 256) := by
  intro d
  induction d with
  | zero =>
    intro i n out p h hd hn ho hp hp2 hx
    refine ⟨out, p, h, ?_, by omega, hx⟩
    refine Ev.step (fun k => (by simp only [spec_l01Bytes.l0]; exact rfl)) ?_
    exact ev_neg (by omega) (Ev.now _)
  | succ d ih =>
    intro i n out p h hd hn ho hp hp2 hx
    obtain ⟨x, p1, h1, e1, hx0, hx1, hp3, hp4⟩ := byte_some l p h hp hl hp2
    obtain ⟨b, p', h', e, hb, hbx⟩ := ih (i + 1) n (out ++ [x % 256]) p1 h1 (by omega) hn (by simp; omega) hp3 hp4 (by
      intro y hy
      rcases List.mem_append.1 hy with hy | hy
      · exact hx y hy
      · simp at hy
        omega)
    refine ⟨b, p', h', ?_, hb, hbx⟩
    refine Ev.step (fun k => (by simp only [spec_l01Bytes.l0]; exact rfl)) ?_
    refine ev_pos (by omega) (ev_call e1 (ev_pos (by omega) ?_))
    rw [w64 (n := (i : Int) + 1) (by omega) (by omega)]
    exact e
theorem make_ev (l : List Int) (hl : l.length ≤ 1048576) : ∃ b : List Int, Ev (fun k => spec_MakeBytes.f k l) b ∧ b.length ≤ 300 ∧ (∀ x ∈ b, 0 ≤ x ∧ x < 256) := by
  obtain ⟨h, e0⟩ := new_ev l
  obtain ⟨x, p1, h1, e1, hx0, hx1, hp3, hp4⟩ := byte_some l 0 h (by omega) hl (by omega)
  have hm := Int.emod_nonneg x (show (41 : Int) ≠ 0 by decide)
  have hm2 := Int.emod_lt_of_pos x (show (0 : Int) < 41 by decide)
  obtain ⟨b, p', h', e, hb, hbx⟩ := bytes_ev l hl (x % 41).toNat 0 (x % 41).toNat [] p1 h1 (by omega) (by omega) rfl hp3 hp4 (by simp)
  refine ⟨b, ?_, by omega, hbx⟩
  simp only [spec_MakeBytes.f]
  refine Ev.bind e0 ?_
  refine Ev.bind (a := (b, p', h')) ?_ (Ev.now _)
  simp only [spec_l01Bytes.f]
  refine ev_call (a := (x % 41, p1, h1)) ?_ ?_
  · unfold spec_l01Below.f
    rw [w64 (by omega) (by omega), if_neg (by omega), if_pos (by omega), e1]
    simp only [Option.bind_some]
    rw [if_neg (by omega), tmod_pos hx0]
    rfl
  · rw [show (((x % 41).toNat : Nat) : Int) = x % 41 by omega] at e
    exact e
theorem FnNumbers : laws_FnNumbers.Pure := by
  intro l hl hl2 hw
  refine Ev.rounds (g := fun k => laws_FnNumbers.f k l) ?_
  simp only [laws_FnNumbers.f]
  by_cases h : (l.length : Int) > 1048576
  · exact ev_pos h (Ev.now _)
  refine ev_neg h ?_
  obtain ⟨b, eb, hbl, hbx⟩ := make_ev l (by omega)
  have hc := crcOf_range hbx
  have hcE := impl_Crc_ev b (by omega) hbx
  generalize crcOf b = c at hc hcE
  have hv := varOf_length 4 c
  have hp : putVar b c = (b ++ varOf 4 c, true) := by
    unfold putVar
    rw [if_pos (by omega)]
  have hvb := varOf_bytes 4 c hc.1 (by omega)
  have hx1 : ∀ x ∈ b ++ varOf 4 c, 0 ≤ x ∧ x < 256 := fun x hx => by
    rcases List.mem_append.1 hx with hx | hx
    · exact hbx x hx
    · exact hvb x hx
  have hz : wrap64 (-(wrap64 (Int.tdiv c 4))) = -(c / 4) := by
    rw [tdiv_pos hc.1, w64 (n := c / 4) (by omega) (by omega), w64 (by omega) (by omega)]
  obtain ⟨m, hm0, hm1, hpz, hzig⟩ : ∃ m : Int, 0 ≤ m ∧ m ≤ 4294967295 ∧ putZig (b ++ varOf 4 c) (-(c / 4)) = (b ++ varOf 4 c ++ varOf 4 m, true) ∧ (if m % 2 = 1 then -((m + 1) / 2) else m / 2) = -(c / 4) := by
    by_cases h0 : c / 4 = 0
    · refine ⟨0, by omega, by omega, ?_, by rw [h0]; rfl⟩
      unfold putZig
      rw [if_pos (by omega), if_pos (by omega), h0]
      unfold putVar
      rw [if_pos (by omega)]
      rfl
    · refine ⟨2 * (c / 4) - 1, by omega, by omega, ?_, by rw [if_pos (by omega)]; omega⟩
      unfold putZig
      rw [if_pos (by omega), if_neg (by omega), show -2 * -(c / 4) - 1 = 2 * (c / 4) - 1 by omega]
      unfold putVar
      rw [if_pos (by omega)]
  have hvm := varOf_length 4 m
  have hvmb := varOf_bytes 4 m hm0 (by omega)
  have hx2 : ∀ x ∈ b ++ varOf 4 c ++ varOf 4 m, 0 ≤ x ∧ x < 256 := fun x hx => by
    rcases List.mem_append.1 hx with hx | hx
    · exact hx1 x hx
    · exact hvmb x hx
  have hlen1 : (b ++ varOf 4 c).length ≤ 400 := by rw [List.length_append]; omega
  have hlen2 : (b ++ varOf 4 c ++ varOf 4 m).length ≤ 500 := by rw [List.length_append]; omega
  have g1 := impl_GetVar_ev (b ++ varOf 4 c) (b.length : Int) (by omega) hx1 (by omega)
  rw [getVar_putVar b c hc.1 (by omega)] at g1
  have g2 := impl_GetZig_ev (b ++ varOf 4 c ++ varOf 4 m) ((b ++ varOf 4 c).length : Int) (by omega) hx2 (by omega)
  rw [getVar_putVar (b ++ varOf 4 c) m hm0 hm1] at g2
  have g2' : zigOf (m, ((b ++ varOf 4 c ++ varOf 4 m).length : Int), true) = (-(c / 4), ((b ++ varOf 4 c ++ varOf 4 m).length : Int), true) := by
    unfold zigOf
    simp only []
    rw [hzig]
  rw [g2'] at g2
  have t1 := impl_TextNum_ev (numS c)
  rw [textNum_numS c hc.1 (by omega)] at t1
  refine Ev.bind eb (Ev.bind hcE (Ev.bind (ev_cast (impl_PutVar_ev b c (by omega)) hp) (Ev.bind g1 ?_)))
  rw [hz]
  refine Ev.bind (ev_cast (impl_PutZig_ev (b ++ varOf 4 c) (-(c / 4)) (by omega) (by omega) (by omega)) hpz) (Ev.bind g2 (Ev.bind (impl_NumText_ev c) (Ev.bind t1 ?_)))
  obtain ⟨q, hq, hq0, hq1, hq2⟩ : ∃ q, impl_Mod.f (wrap64 (-c)) 7 = some q ∧ 0 ≤ q ∧ q < 7 ∧ (c + q) % 7 = 0 := by
    rw [w64 (by omega) (by omega)]
    unfold impl_Mod.f
    rw [if_neg (by omega), if_neg (by omega), Int.neg_tmod, tmod_pos hc.1]
    by_cases hneg : -(c % 7) < 0
    · rw [if_pos hneg, w64 (by omega) (by omega)]
      exact ⟨_, rfl, by omega, by omega, by omega⟩
    · rw [if_neg hneg]
      exact ⟨_, rfl, by omega, by omega, by omega⟩
  refine ev_call hq ?_
  refine ev_pos rfl (ev_pos rfl (ev_pos rfl (ev_pos rfl (ev_pos rfl (ev_pos rfl (ev_pos rfl (ev_pos rfl (ev_pos rfl (ev_pos rfl (ev_pos hq0 (ev_pos hq1 (ev_cast (Ev.now _) ?_))))))))))))
  rw [w64 (by omega) (by omega), tmod_pos (by omega)]
  simp
  omega

end Go.Proofs.Ytcpmdkopbhddkaa.Pure
