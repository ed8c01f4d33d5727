/- The program's GetZig answers as the reference's, for every list of bytes and every int; it leaves the list as it was; no condition. -/
import Derived.Test.YtcpmdkopbhddkaaPFnExactGetZigx3
import Derived.Test.YtcpmdkopbhddkaaCom
namespace Go.Proofs.Ytcpmdkopbhddkaa.Pure
open Go.RowKit Go.Proofs.Ytcpmdkopbhddkaa.PFnExactGetZig Go.Proofs.YtcpmdkopbhddkaaW.PrintWords Go.Proofs.YtcpmdkopbhddkaaW.PrintLast Go.Proofs.Ytcpmdkopbhddkaa.Com

/-! Copies of bytes, and their comparison with themselves. -/
theorem toByteS_l0 (x0 : List Int) (hb : x0.length ≤ 4611686018427387904) : ∀ (d i : Nat) (x3 : List Int), i + d = x0.length → x3.length = x0.length →
    Ev (fun k => laws_toByteS.l0 k x0 x3 (i : Int)) (x3.take i ++ x0.drop i) := by
  intro d
  induction d with
  | zero =>
    intro i x3 hd h3
    refine ev_one fun k => ?_
    simp only [laws_toByteS.l0]
    rw [if_neg (by omega), List.take_of_length_le (by omega), List.drop_of_length_le (by omega), List.append_nil]
  | succ d ih =>
    intro i x3 hd h3
    have e := ih (i + 1) (x3.set i (rd x0 i)) (by omega) (by simpa using h3)
    have hs := set_mid x0 x3 i 0 (by omega) h3
    refine Ev.step (fun k => ?_) (ev_cast e (show _ = x3.take i ++ x0.drop i from hs))
    simp only [laws_toByteS.l0]
    rw [if_pos (by omega), if_pos (by omega), if_pos (by omega), w64 (by omega) (by omega)]
    rfl
theorem toByteS_ev (l : List Int) (hb : l.length ≤ 281474976710656) : Ev (fun k => laws_toByteS.f k l) l := by
  simp only [laws_toByteS.f]
  refine ev_pos (by omega) (ev_pos (by omega) ?_)
  exact ev_cast (toByteS_l0 l (by omega) l.length 0 _ (by omega) (by simp)) (by simp)
theorem eqByteS_l0 (x : List Int) (hb : x.length ≤ 4611686018427387904) : ∀ (d i : Nat), i + d = x.length → Ev (fun k => laws_eqByteS.l0 k x x (i : Int)) true := by
  intro d
  induction d with
  | zero =>
    intro i hd
    refine ev_one fun k => ?_
    simp only [laws_eqByteS.l0]
    rw [if_neg (by omega)]
  | succ d ih =>
    intro i hd
    refine Ev.step (fun k => ?_) (ih (i + 1) (by omega))
    simp only [laws_eqByteS.l0]
    rw [if_pos (by omega), if_pos (by omega), if_pos (by omega), if_pos trivial, w64 (by omega) (by omega)]
    rfl
theorem eqByteS_ev (l : List Int) (hb : l.length ≤ 281474976710656) : Ev (fun k => laws_eqByteS.f k l l) true := by
  simp only [laws_eqByteS.f]
  exact ev_pos (by trivial) (eqByteS_l0 l (by omega) l.length 0 (by omega))
/-! A number's digits. -/
def varOf : Nat → Int → List Int
  | 0, n => [n % 256]
  | f + 1, n => if n ≥ 128 then (n % 128 + 128) :: varOf f (n / 128) else [n % 256]
theorem varOf_length : ∀ (f : Nat) (n : Int), (varOf f n).length ≤ f + 1
  | 0, _ => by simp [varOf]
  | f + 1, n => by
    unfold varOf
    split
    · have := varOf_length f (n / 128)
      simp
      omega
    · simp
def putVar (l : List Int) (n : Int) : List Int × Bool := if 0 ≤ n ∧ n ≤ 4294967295 then (l ++ varOf 4 n, true) else ([], false)
theorem putVar_length (l : List Int) (n : Int) : (putVar l n).1.length ≤ l.length + 5 := by
  unfold putVar
  split
  · have := varOf_length 4 n
    simp
    omega
  · simp
theorem spec_l01Num_eq (n : Int) : spec_l01Num.f n = some (decide (0 ≤ n ∧ n ≤ 4294967295)) := by
  unfold spec_l01Num.f
  by_cases h : n ≥ 0 <;> simp [h]
theorem spec_PutVar_l0 : ∀ (f : Nat) (n : Int) (x : List Int), 0 ≤ n → n < 128 ^ (f + 1) → n < 4611686018427387904 → x.length + f + 1 < 140737488355328 →
    Ev (fun k => spec_PutVar.l0 k n x) (x ++ varOf f n, true)
  | 0, n, x, h0, h1, _, hx => by
    refine ev_one fun k => ?_
    simp only [spec_PutVar.l0]
    rw [if_neg (by omega), if_pos (by omega)]
    rfl
  | f + 1, n, x, h0, h1, h2, hx => by
    by_cases h : n ≥ 128
    · have e := spec_PutVar_l0 f (n / 128) (x ++ [n % 128 + 128]) (by omega) (by rw [Int.pow_succ] at h1; omega) (by omega) (by simp; omega)
      refine Ev.step (fun k => ?_) (ev_cast e ?_)
      · simp only [spec_PutVar.l0]
        rw [if_pos h, if_pos (by omega), tdiv_pos h0, tmod_pos h0, w64 (n := n / 128) (by omega) (by omega), w64 (n := n % 128 + 128) (by omega) (by omega), show (n % 128 + 128) % 256 = n % 128 + 128 by omega]
      · rw [varOf, if_pos h, List.append_assoc]; first | done | rfl
    · refine ev_one fun k => ?_
      simp only [spec_PutVar.l0]
      rw [if_neg h, if_pos (by omega), varOf, if_neg h]
theorem spec_PutVar_ev (l : List Int) (n : Int) (hl : l.length ≤ 140737488355000) : Ev (fun k => spec_PutVar.f k l n) (putVar l n) := by
  simp only [spec_PutVar.f]
  refine ev_call (spec_l01Num_eq n) ?_
  unfold putVar
  by_cases h : 0 ≤ n ∧ n ≤ 4294967295
  · rw [if_pos h, decide_eq_true h]
    refine ev_pos rfl ?_
    refine ev_call rfl ?_
    refine ev_pos (by simp; omega) ?_
    have e := spec_PutVar_l0 4 n l h.1 (by omega) (by omega) (by omega)
    simpa using e
  · rw [if_neg h, decide_eq_false h]
    exact ev_neg (by simp) (Ev.now _)
/-! Reading digits: the list of a number's bytes, and what they are worth. -/
def takeVar : Nat → List Int → Option (List Int)
  | 0, _ => none
  | _ + 1, [] => none
  | d + 1, b :: r => if b ≥ 128 then (takeVar d r).map (b :: ·) else some [b]
def valOf : List Int → Int
  | [] => 0
  | b :: r => b % 128 + 128 * valOf r
def lastOf : List Int → Int
  | [] => 0
  | [b] => b
  | _ :: r => lastOf r
def getOf (at_ : Int) : Option (List Int) → Int × Int × Bool
  | none => (0, 0, false)
  | some ds => if valOf ds > 4294967295 ∨ (lastOf ds = 0 ∧ ds.length > 1) then (0, 0, false) else (valOf ds, at_ + ds.length, true)
def getVar (l : List Int) (a : Int) : Int × Int × Bool := if a < 0 then (0, 0, false) else getOf a (takeVar 5 (l.drop a.toNat))
theorem valOf_range : ∀ (ds : List Int), 0 ≤ valOf ds ∧ valOf ds < 128 ^ ds.length
  | [] => by simp [valOf]
  | b :: r => by
    have h := valOf_range r
    have h2 : (128 : Int) ^ (r.length + 1) = 128 ^ r.length * 128 := Int.pow_succ _ _
    simp only [valOf, List.length_cons]
    omega
theorem takeVar_length : ∀ (d : Nat) (l ds : List Int), takeVar d l = some ds → 0 < ds.length ∧ ds.length ≤ d ∧ ds.length ≤ l.length
  | 0, _, _, h => by simp [takeVar] at h
  | d + 1, [], _, h => by simp [takeVar] at h
  | d + 1, b :: r, ds, h => by
    unfold takeVar at h
    split at h
    · obtain ⟨x, hx, rfl⟩ := Option.map_eq_some_iff.1 h
      have := takeVar_length d r x hx
      simp
      omega
    · obtain rfl := Option.some.inj h
      simp
theorem lastOf_cons (b : Int) {r : List Int} (h : 0 < r.length) : lastOf (b :: r) = lastOf r := by
  cases r with
  | nil => simp at h
  | cons c s => rfl
theorem pow128 : ((128 : Int) ^ 5 = 34359738368) ∧ ((128 : Int) ^ 4 = 268435456) ∧ ((128 : Int) ^ 3 = 2097152) ∧ ((128 : Int) ^ 2 = 16384) ∧ ((128 : Int) ^ 1 = 128) ∧ ((128 : Int) ^ 0 = 1) := by decide
theorem pow128_le (d : Nat) (h : d ≤ 5) : 1 ≤ (128 : Int) ^ d ∧ (128 : Int) ^ d ≤ 34359738368 := by
  have : d = 0 ∨ d = 1 ∨ d = 2 ∨ d = 3 ∨ d = 4 ∨ d = 5 := by omega
  rcases this with h | h | h | h | h | h <;> subst h <;> decide
/-- What the program's loop answers from digit i on: n so far, u the digit's unit. -/
def getFrom (a i : Nat) (n u : Int) : Option (List Int) → Int × Int × Bool
  | none => (0, 0, false)
  | some ds => if n + u * valOf ds > 4294967295 ∨ (lastOf ds = 0 ∧ i + ds.length > a + 1) then (0, 0, false) else (n + u * valOf ds, i + ds.length, true)
theorem impl_GetVar_l0 (l : List Int) (hl : l.length ≤ 4611686018427387904) (hx : ∀ x ∈ l, 0 ≤ x ∧ x < 256) (a : Nat) (ha : a ≤ 4611686018427387904) : ∀ (d i : Nat) (n : Int), a + 5 = i + d → a ≤ i → 0 ≤ n → n < 128 ^ (5 - d) →
    Ev (fun k => impl_GetVar.l0 k l (a : Int) n (128 ^ (5 - d)) (i : Int)) (getFrom a i n (128 ^ (5 - d)) (takeVar d (l.drop i))) := by
  intro d
  induction d with
  | zero =>
    intro i n hd hai h0 h1
    refine Ev.step (fun k => (by simp only [impl_GetVar.l0]; exact rfl)) ?_
    have hf : decide ((i : Int) < wrap64 ((a : Int) + 5)) = false := by rw [w64 (by omega) (by omega)]; simp; omega
    have e : Ev (fun k => impl_GetVar.j1 k l (a : Int) n (128 ^ (5 - 0)) (i : Int) false) (0, 0, false) := by
      refine Ev.step (fun k => (by simp only [impl_GetVar.j1]; exact rfl)) ?_
      exact ev_neg (by simp) (Ev.now _)
    by_cases h : (i : Int) < (l.length : Int)
    · refine ev_pos h ?_
      rw [hf]
      exact e
    · exact ev_neg h e
  | succ d ih =>
    intro i n hd hai h0 h1
    refine Ev.step (fun k => (by simp only [impl_GetVar.l0]; exact rfl)) ?_
    by_cases h : (i : Int) < (l.length : Int)
    · refine ev_pos h ?_
      have hf : decide ((i : Int) < wrap64 ((a : Int) + 5)) = true := by rw [w64 (by omega) (by omega)]; simp; omega
      rw [hf]
      refine Ev.step (fun k => (by simp only [impl_GetVar.j1]; exact rfl)) ?_
      refine ev_pos (by trivial) (ev_pos (by omega) (ev_pos h ?_))
      have hi : i < l.length := by omega
      have hm := hx _ (List.getElem_mem hi)
      rw [rd_at l i hi, w64 (n := l[i]) (by omega) (by omega), tmod_pos hm.1]
      have hu := pow128_le (5 - (d + 1)) (by omega)
      have hs : (128 : Int) ^ (5 - d) = 128 ^ (5 - (d + 1)) * 128 := by
        rw [show 5 - d = (5 - (d + 1)) + 1 by omega, Int.pow_succ]
      have hu2 := pow128_le (5 - d) (by omega)
      generalize hU : (128 : Int) ^ (5 - (d + 1)) = u at *
      have hp : 0 ≤ l[i] % 128 * u ∧ l[i] % 128 * u ≤ 127 * u := ⟨Int.mul_nonneg (by omega) (by omega), Int.mul_le_mul_of_nonneg_right (by omega) (by omega)⟩
      rw [w64 (n := l[i] % 128 * u) (by omega) (by omega), w64 (n := n + l[i] % 128 * u) (by omega) (by omega), w64 (n := u * 128) (by omega) (by omega), w64 (n := (i : Int) + 1) (by omega) (by omega)]
      rw [List.drop_eq_getElem_cons hi]
      unfold takeVar
      by_cases hb : l[i] ≥ 128
      · rw [if_pos hb]
        refine ev_pos hb ?_
        have e := ih (i + 1) (n + l[i] % 128 * u) (by omega) (by omega) (by omega) (by omega)
        rw [hs] at e
        refine ev_cast e ?_
        cases ht : takeVar d (l.drop (i + 1)) with
        | none => rfl
        | some ds =>
          have hl := takeVar_length _ _ _ ht
          simp only [getFrom, Option.map_some, valOf, List.length_cons, lastOf_cons _ hl.1]
          have hv : n + l[i] % 128 * u + u * 128 * valOf ds = n + u * (l[i] % 128 + 128 * valOf ds) := by
            rw [Int.mul_add, Int.mul_comm u (l[i] % 128), Int.mul_assoc]
            omega
          simp only [hv]
          generalize n + u * (l[i] % 128 + 128 * valOf ds) = z
          by_cases hc : z > 4294967295 ∨ lastOf ds = 0 ∧ i + (ds.length + 1) > a + 1
          · rw [if_pos (by omega), if_pos hc]
          · rw [if_neg (by omega), if_neg hc, show ((i + 1 : Nat) : Int) + (ds.length : Int) = (i : Int) + ((ds.length + 1 : Nat) : Int) by omega]
      · rw [if_neg hb]
        refine ev_neg hb ?_
        have hv : n + u * (l[i] % 128 + 128 * 0) = n + l[i] % 128 * u := by rw [Int.mul_zero, Int.add_zero, Int.mul_comm u]
        simp only [getFrom, valOf, lastOf, List.length_cons, List.length_nil, hv]
        by_cases hg : n + l[i] % 128 * u > 4294967295
        · exact ev_pos hg (ev_cast (Ev.now _) (by rw [if_pos (Or.inl hg)]))
        · refine ev_neg hg ?_
          by_cases hz : l[i] = 0
          · refine ev_pos hz ?_
            by_cases hk : (i : Int) > (a : Int)
            · exact ev_pos hk (ev_cast (Ev.now _) (by rw [if_pos (Or.inr ⟨hz, by omega⟩)]))
            · exact ev_neg hk (ev_cast (Ev.now _) (by rw [if_neg (by omega)]; rfl))
          · exact ev_neg hz (ev_cast (Ev.now _) (by rw [if_neg (by omega)]; rfl))
    · refine ev_neg h ?_
      refine Ev.step (fun k => (by simp only [impl_GetVar.j1]; exact rfl)) ?_
      rw [List.drop_of_length_le (by omega)]
      exact ev_neg (by simp) (Ev.now _)
theorem impl_GetVar_ev (l : List Int) (a : Int) (hl : l.length ≤ 4611686018427387904) (hx : ∀ x ∈ l, 0 ≤ x ∧ x < 256) (ha : a ≤ 9223372036854775807) : Ev (fun k => impl_GetVar.f k l a) (getVar l a) := by
  simp only [impl_GetVar.f]
  unfold getVar
  by_cases h0 : a < 0
  · rw [if_pos h0]
    exact ev_pos h0 (Ev.now _)
  · rw [if_neg h0]
    refine ev_neg h0 ?_
    by_cases h1 : a < l.length
    · have e := impl_GetVar_l0 l hl hx a.toNat (by omega) 5 a.toNat 0 (by omega) (by omega) (by omega) (by decide)
      rw [show ((a.toNat : Nat) : Int) = a by omega] at e
      refine ev_cast e ?_
      cases takeVar 5 (l.drop a.toNat) with
      | none => rfl
      | some ds =>
        simp only [getFrom, getOf]
        rw [show (0 : Int) + 128 ^ (5 - 5) * valOf ds = valOf ds by simp, show (a.toNat : Int) = a by omega]
        by_cases hc : valOf ds > 4294967295 ∨ lastOf ds = 0 ∧ ds.length > 1
        · rw [if_pos (by omega), if_pos hc]
        · rw [if_neg (by omega), if_neg hc]
    · rw [List.drop_of_length_le (by omega)]
      refine Ev.step (fun k => (by simp only [impl_GetVar.l0]; exact rfl)) ?_
      refine ev_neg (by omega) ?_
      refine Ev.step (fun k => (by simp only [impl_GetVar.j1]; exact rfl)) ?_
      exact ev_neg (by simp) (Ev.now _)
/-! A valid list of digits is written again just where its last one counts. -/
def Digits : List Int → Prop
  | [] => False
  | [b] => 0 ≤ b ∧ b < 128
  | b :: c :: r => 128 ≤ b ∧ b < 256 ∧ Digits (c :: r)
theorem takeVar_digits : ∀ (d : Nat) (l ds : List Int), (∀ x ∈ l, 0 ≤ x ∧ x < 256) → takeVar d l = some ds → Digits ds ∧ ds = l.take ds.length
  | 0, _, _, _, h => by simp [takeVar] at h
  | d + 1, [], _, _, h => by simp [takeVar] at h
  | d + 1, b :: r, ds, hx, h => by
    have hb := hx b List.mem_cons_self
    unfold takeVar at h
    split at h
    · obtain ⟨x, hx2, rfl⟩ := Option.map_eq_some_iff.1 h
      obtain ⟨h1, h2⟩ := takeVar_digits d r x (fun y hy => hx y (List.mem_cons_of_mem _ hy)) hx2
      cases x with
      | nil => exact absurd h1 (by simp [Digits])
      | cons c s => exact ⟨⟨by omega, hb.2, h1⟩, by rw [List.length_cons, List.take_succ_cons, ← h2]⟩
    · obtain rfl := Option.some.inj h
      exact ⟨⟨hb.1, by omega⟩, by simp⟩
theorem varOf_valOf : ∀ (f : Nat) (ds : List Int), Digits ds → ds.length ≤ f + 1 → (varOf f (valOf ds) = ds ↔ ¬ (lastOf ds = 0 ∧ ds.length > 1))
  | _, [], h, _ => by simp [Digits] at h
  | 0, [b], h, _ => by
    have h' : 0 ≤ b ∧ b < 128 := h
    simp [varOf, valOf]
    omega
  | f + 1, [b], h, _ => by
    have h' : 0 ≤ b ∧ b < 128 := h
    have : valOf [b] = b := by simp [valOf]; omega
    rw [this, varOf, if_neg (by omega), show b % 256 = b by omega]
    simp
  | 0, b :: c :: r, _, hl => by simp at hl
  | f + 1, b :: c :: r, h, hl => by
    obtain ⟨hb0, hb1, hr⟩ := h
    have ih := varOf_valOf f (c :: r) hr (by simp at hl ⊢; omega)
    have hv := valOf_range (c :: r)
    have hl2 : lastOf (b :: c :: r) = lastOf (c :: r) := lastOf_cons b (by simp)
    have hval : valOf (b :: c :: r) = b % 128 + 128 * valOf (c :: r) := rfl
    rw [hl2, hval, varOf]
    by_cases hbig : b % 128 + 128 * valOf (c :: r) ≥ 128
    · rw [if_pos hbig, show (b % 128 + 128 * valOf (c :: r)) % 128 + 128 = b by omega, show (b % 128 + 128 * valOf (c :: r)) / 128 = valOf (c :: r) by omega]
      rw [List.cons.injEq]
      simp only [true_and]
      rw [ih]
      cases r with
      | nil =>
        have hc : 0 ≤ c ∧ c < 128 := hr
        have : valOf [c] = c := by simp [valOf]; omega
        rw [this] at hbig
        simp only [lastOf, List.length_cons, List.length_nil]
        omega
      | cons e s =>
        simp only [List.length_cons]
        constructor <;> intro h1 h2 <;> exact h1 ⟨h2.1, by omega⟩
    · rw [if_neg hbig]
      have hz : valOf (c :: r) = 0 := by omega
      have hlast : lastOf (c :: r) = 0 := by
        have : ∀ (l : List Int), Digits l → valOf l = 0 → lastOf l = 0 := by
          intro l
          induction l with
          | nil => intro _ _; rfl
          | cons x s ihl =>
            intro hd hv0
            cases s with
            | nil =>
              have hx : 0 ≤ x ∧ x < 128 := hd
              have : valOf [x] = x := by simp [valOf]; omega
              simp only [lastOf]
              omega
            | cons y t =>
              have hr2 := valOf_range (y :: t)
              have hv1 : valOf (x :: y :: t) = x % 128 + 128 * valOf (y :: t) := rfl
              exact ihl hd.2.2 (by omega)
        exact this _ hr hz
      simp [hlast]
theorem map_inj : ∀ (a b : List Int), (∀ x ∈ a, 0 ≤ x ∧ x < 256) → (∀ x ∈ b, 0 ≤ x ∧ x < 256) → a.map (fun n => UInt8.ofNat n.toNat) = b.map (fun n => UInt8.ofNat n.toNat) → a = b
  | [], [], _, _, _ => rfl
  | [], _ :: _, _, _, h => by simp at h
  | _ :: _, [], _, _, h => by simp at h
  | x :: a, y :: b, ha, hb, h => by
    rw [List.map_cons, List.map_cons, List.cons.injEq] at h
    have h1 := ha x List.mem_cons_self
    have h2 := hb y List.mem_cons_self
    have e := congrArg UInt8.toNat h.1
    rw [UInt8.toNat_ofNat', UInt8.toNat_ofNat'] at e
    rw [Nat.mod_eq_of_lt (by omega), Nat.mod_eq_of_lt (by omega)] at e
    rw [map_inj a b (fun z hz => ha z (List.mem_cons_of_mem _ hz)) (fun z hz => hb z (List.mem_cons_of_mem _ hz)) h.2, show x = y by omega]
theorem str_inj (a b : List Int) (ha : ∀ x ∈ a, 0 ≤ x ∧ x < 256) (hb : ∀ x ∈ b, 0 ≤ x ∧ x < 256) : (strOfNums a).toList = (strOfNums b).toList ↔ a = b := by
  constructor
  · intro h
    unfold strOfNums at h
    rw [Go.ByteArray.toList_mk, Go.ByteArray.toList_mk] at h
    exact map_inj a b ha hb h
  · intro h
    rw [h]
theorem varOf_bytes : ∀ (f : Nat) (n : Int), 0 ≤ n → n < 128 ^ (f + 1) → ∀ x ∈ varOf f n, 0 ≤ x ∧ x < 256
  | 0, n, h0, h1, x, hx => by
    simp [varOf] at hx
    omega
  | f + 1, n, h0, h1, x, hx => by
    unfold varOf at hx
    split at hx
    · rcases List.mem_cons.1 hx with h | h
      · omega
      · exact varOf_bytes f (n / 128) (by omega) (by rw [Int.pow_succ] at h1; omega) x h
    · simp at hx
      omega
/-- From digit i down to digit a: n so far. -/
theorem spec_GetVar_l1 (l : List Int) (hl : l.length ≤ 4611686018427387904) (hx : ∀ x ∈ l, 0 ≤ x ∧ x < 256) (a e : Nat) (v : Int × Int × Bool) : ∀ (d : Nat) (n : Int), a + d ≤ l.length → d ≤ 5 → 0 ≤ n → n < 128 ^ (5 - d) →
    Ev (fun k => spec_GetVar.l1 k l (a : Int) (e : Int) (((l.drop a).take d).foldr (fun b m => b % 128 + 128 * m) n) ((a : Int) - 1)) v →
    Ev (fun k => spec_GetVar.l1 k l (a : Int) (e : Int) n ((a : Int) + d - 1)) v := by
  intro d
  induction d with
  | zero =>
    intro n _ _ _ _ h
    simpa using h
  | succ d ih =>
    intro n had hd h0 h1 h
    have hi : a + d < l.length := by omega
    have hm := hx _ (List.getElem_mem hi)
    have hu := pow128_le (5 - d) (by omega)
    have hs : (128 : Int) ^ (5 - d) = 128 ^ (5 - (d + 1)) * 128 := by
      rw [show 5 - d = (5 - (d + 1)) + 1 by omega, Int.pow_succ]
    refine Ev.step (fun k => (by simp only [spec_GetVar.l1]; exact rfl)) ?_
    refine ev_pos (by omega) (ev_pos (by omega) (ev_pos (by omega) ?_))
    rw [show ((a : Int) + ((d + 1 : Nat) : Int) - 1) = ((a + d : Nat) : Int) by omega, rd_at l (a + d) hi, w64 (n := l[a + d]) (by omega) (by omega), tmod_pos hm.1]
    rw [w64 (n := n * 128) (by omega) (by omega), w64 (n := n * 128 + l[a + d] % 128) (by omega) (by omega), w64 (n := ((a + d : Nat) : Int) - 1) (by omega) (by omega)]
    rw [show ((a + d : Nat) : Int) - 1 = (a : Int) + (d : Int) - 1 by omega]
    refine ih (n * 128 + l[a + d] % 128) (by omega) (by omega) (by omega) (by omega) ?_
    have ht : (l.drop a).take (d + 1) = (l.drop a).take d ++ [l[a + d]] := by
      rw [List.take_add_one, List.getElem?_drop, List.getElem?_eq_getElem hi]
      rfl
    rw [ht, List.foldr_append] at h
    simp only [List.foldr_cons, List.foldr_nil] at h
    rw [show n * 128 + l[a + d] % 128 = l[a + d] % 128 + 128 * n by omega]
    exact h
theorem foldr_val (ds : List Int) : ds.foldr (fun b m => b % 128 + 128 * m) 0 = valOf ds := by
  induction ds with
  | nil => rfl
  | cons b r ih =>
    simp only [List.foldr_cons, ih]
    rfl
theorem spec_GetVar_end (l : List Int) (hl : l.length ≤ 140737488355000) (hx : ∀ x ∈ l, 0 ≤ x ∧ x < 256) (a : Nat) (ds : List Int) (hds : takeVar 5 (l.drop a) = some ds) :
    Ev (fun k => spec_GetVar.j2 k l (a : Int) ((a + ds.length - 1 : Nat) : Int)) (getOf (a : Int) (some ds)) := by
  have hlen := takeVar_length _ _ _ hds
  have hdig := takeVar_digits 5 (l.drop a) ds (fun x h => hx x (List.mem_of_mem_drop h)) hds
  rw [List.length_drop] at hlen
  have hval := valOf_range ds
  have h5 := pow128_le ds.length hlen.2.1
  refine Ev.step (fun k => (by simp only [spec_GetVar.j2]; exact rfl)) ?_
  refine ev_neg (by omega) ?_
  have hf : (((a + ds.length - 1 : Nat) : Int) == wrap64 ((a : Int) + 5)) = false := by
    rw [w64 (by omega) (by omega)]
    simp
    omega
  rw [hf]
  refine Ev.step (fun k => (by simp only [spec_GetVar.j3]; exact rfl)) ?_
  refine ev_neg (by simp) ?_
  have hcast : ((a + ds.length - 1 : Nat) : Int) = (a : Int) + (ds.length : Int) - 1 := by omega
  rw [hcast]
  have key := spec_GetVar_l1 l (by omega) hx a (a + ds.length - 1) (getOf (a : Int) (some ds)) ds.length 0 (by omega) (by omega) (by omega) (by have := pow128_le (5 - ds.length) (by omega); omega)
  rw [hcast] at key
  refine key ?_
  rw [← hdig.2, foldr_val]
  refine Ev.step (fun k => (by simp only [spec_GetVar.l1]; exact rfl)) ?_
  refine ev_neg (by omega) ?_
  simp only [getOf]
  by_cases hg : valOf ds > 4294967295
  · have hp : putVar [] (valOf ds) = ([], false) := by
      unfold putVar
      rw [if_neg (by omega)]
    refine Ev.bind (ev_cast (spec_PutVar_ev [] (valOf ds) (by simp)) hp) ?_
    exact ev_neg (by simp) (ev_cast (Ev.now _) (by rw [if_pos (Or.inl hg)]))
  · have hp : putVar [] (valOf ds) = (varOf 4 (valOf ds), true) := by
      unfold putVar
      rw [if_pos (by omega)]
      rfl
    refine Ev.bind (ev_cast (spec_PutVar_ev [] (valOf ds) (by simp)) hp) ?_
    have hw := w64 (n := (a : Int) + (ds.length : Int) - 1 + 1) (by omega) (by omega)
    refine ev_pos (by trivial) (ev_pos (by omega) (ev_pos (by rw [hw]; omega) (ev_pos (by rw [hw]; omega) ?_)))
    rw [hw]
    have hsl : (l.take ((a : Int) + (ds.length : Int) - 1 + 1 : Int).toNat).drop (a : Int).toNat = ds := by
      rw [show ((a : Int) + (ds.length : Int) - 1 + 1 : Int).toNat = a + ds.length by omega, show (a : Int).toNat = a by omega, List.drop_take]
      rw [show a + ds.length - a = ds.length by omega]
      exact hdig.2.symm
    rw [hsl]
    have hv := varOf_valOf 4 ds hdig.1 (by omega)
    have hb : ∀ x ∈ ds, 0 ≤ x ∧ x < 256 := fun x h => by
      rw [hdig.2] at h
      exact hx x (List.mem_of_mem_drop (List.mem_of_mem_take h))
    have hs := str_inj (varOf 4 (valOf ds)) ds (varOf_bytes 4 _ hval.1 (by omega)) hb
    by_cases hc : lastOf ds = 0 ∧ ds.length > 1
    · exact ev_neg (fun h => hv.1 (hs.1 h) hc) (ev_cast (Ev.now _) (by rw [if_pos (Or.inr hc)]))
    · refine ev_pos (hs.2 (hv.2 hc)) (ev_cast (Ev.now _) ?_)
      rw [if_neg (by omega), show (a : Int) + (ds.length : Int) - 1 + 1 = (a : Int) + (ds.length : Int) by omega]
theorem spec_GetVar_l0 (l : List Int) (hl : l.length ≤ 140737488355000) (hx : ∀ x ∈ l, 0 ≤ x ∧ x < 256) (a : Nat) (ha : a < l.length) : ∀ (d i : Nat), a + 5 = i + d → a ≤ i → i ≤ l.length → (takeVar 5 (l.drop a) = (takeVar d (l.drop i)).map ((l.drop a).take (i - a) ++ ·)) →
    Ev (fun k => spec_GetVar.l0 k l (a : Int) (i : Int)) (getOf (a : Int) (takeVar 5 (l.drop a))) := by
  have fail : ∀ i : Nat, i ≤ l.length → (i = l.length ∨ i = a + 5) → Ev (fun k => spec_GetVar.j2 k l (a : Int) (i : Int)) (0, 0, false) := by
    intro i h1 h2
    refine Ev.step (fun k => (by simp only [spec_GetVar.j2]; exact rfl)) ?_
    have e : Ev (fun k => spec_GetVar.j3 k l (a : Int) (i : Int) true) (0, 0, false) := by
      refine Ev.step (fun k => (by simp only [spec_GetVar.j3]; exact rfl)) ?_
      exact ev_pos (by trivial) (Ev.now _)
    by_cases h : (i : Int) = (l.length : Int)
    · exact ev_pos h e
    · refine ev_neg h ?_
      have hf : ((i : Int) == wrap64 ((a : Int) + 5)) = true := by
        rw [w64 (by omega) (by omega)]
        simp
        omega
      rw [hf]
      exact e
  intro d
  induction d with
  | zero =>
    intro i hd hai hil ht
    rw [ht]
    simp only [takeVar, Option.map_none]
    refine Ev.step (fun k => (by simp only [spec_GetVar.l0]; exact rfl)) ?_
    by_cases h : (i : Int) < (l.length : Int)
    · exact ev_pos h (ev_neg (by rw [w64 (by omega) (by omega)]; omega) (fail i hil (by omega)))
    · exact ev_neg h (fail i hil (by omega))
  | succ d ih =>
    intro i hd hai hil ht
    refine Ev.step (fun k => (by simp only [spec_GetVar.l0]; exact rfl)) ?_
    by_cases h : (i : Int) < (l.length : Int)
    · have hi : i < l.length := by omega
      refine ev_pos h (ev_pos (by rw [w64 (by omega) (by omega)]; omega) (ev_pos (by omega) ?_))
      rw [rd_at l i hi]
      rw [List.drop_eq_getElem_cons hi] at ht
      have hta : (l.drop a).take (i + 1 - a) = (l.drop a).take (i - a) ++ [l[i]] := by
        rw [show i + 1 - a = (i - a) + 1 by omega, List.take_add_one, List.getElem?_drop, show a + (i - a) = i by omega, List.getElem?_eq_getElem hi]
        rfl
      have hu : takeVar (d + 1) (l[i] :: l.drop (i + 1)) = if l[i] ≥ 128 then (takeVar d (l.drop (i + 1))).map (l[i] :: ·) else some [l[i]] := rfl
      rw [hu] at ht
      by_cases hb : l[i] ≥ 128
      · refine ev_pos hb ?_
        rw [w64 (n := (i : Int) + 1) (by omega) (by omega)]
        rw [if_pos hb] at ht
        refine ih (i + 1) (by omega) (by omega) (by omega) ?_
        rw [ht, hta, Option.map_map]
        congr 1
        funext r
        simp
      · refine ev_neg hb ?_
        rw [if_neg hb] at ht
        have h5 : takeVar 5 (l.drop a) = some ((l.drop a).take (i - a) ++ [l[i]]) := ht
        have e := spec_GetVar_end l hl hx a _ h5
        rw [h5]
        have hn : a + ((l.drop a).take (i - a) ++ [l[i]]).length - 1 = i := by
          simp
          omega
        rw [hn] at e
        exact e
    · refine ev_neg h ?_
      have hn : l.drop i = [] := List.drop_of_length_le (by omega)
      rw [ht, hn]
      exact fail i hil (Or.inl (by omega))
theorem spec_GetVar_ev (l : List Int) (a : Int) (hl : l.length ≤ 140737488355000) (hx : ∀ x ∈ l, 0 ≤ x ∧ x < 256) : Ev (fun k => spec_GetVar.f k l a) (getVar l a) := by
  simp only [spec_GetVar.f]
  unfold getVar
  have bad : Ev (fun k => spec_GetVar.j0 k l a true) (0, 0, false) := by
    refine Ev.step (fun k => (by simp only [spec_GetVar.j0]; exact rfl)) ?_
    exact ev_pos (by trivial) (Ev.now _)
  by_cases h0 : a < 0
  · rw [if_pos h0]
    exact ev_pos h0 bad
  · rw [if_neg h0]
    refine ev_neg h0 ?_
    by_cases h1 : a ≥ (l.length : Int)
    · rw [decide_eq_true h1, List.drop_of_length_le (by omega)]
      exact bad
    · rw [decide_eq_false h1]
      refine Ev.step (fun k => (by simp only [spec_GetVar.j0]; exact rfl)) ?_
      refine ev_neg (by simp) ?_
      have e := spec_GetVar_l0 l hl hx a.toNat (by omega) 5 a.toNat (by omega) (by omega) (by omega) (by simp)
      rw [show ((a.toNat : Nat) : Int) = a by omega] at e
      exact e
def zigOf (x : Int × Int × Bool) : Int × Int × Bool := (if x.1 % 2 = 1 then -((x.1 + 1) / 2) else x.1 / 2, x.2.1, x.2.2)
theorem getVar_range (l : List Int) (a : Int) : 0 ≤ (getVar l a).1 ∧ (getVar l a).1 ≤ 4294967295 ∧ ((getVar l a).2.2 = false → getVar l a = (0, 0, false)) := by
  unfold getVar
  split
  · simp
  · cases ht : takeVar 5 (l.drop a.toNat) with
    | none => simp [getOf]
    | some ds =>
      have := valOf_range ds
      simp only [getOf]
      split <;> simp <;> omega
theorem impl_GetZig_ev (l : List Int) (a : Int) (hl : l.length ≤ 140737488355000) (hx : ∀ x ∈ l, 0 ≤ x ∧ x < 256) (ha : a ≤ 9223372036854775807) : Ev (fun k => impl_GetZig.f k l a) (zigOf (getVar l a)) := by
  simp only [impl_GetZig.f]
  refine Ev.bind (impl_GetVar_ev l a (by omega) hx ha) ?_
  have h := getVar_range l a
  unfold zigOf
  rw [tmod_pos h.1, tdiv_pos h.1, w64 (n := (getVar l a).1 + 1) (by omega) (by omega), w64 (n := -((getVar l a).1 + 1)) (by omega) (by omega), w64 (n := (getVar l a).1 / 2) (by omega) (by omega), Int.neg_tdiv, tdiv_pos (x := (getVar l a).1 + 1) (by omega), w64 (n := -(((getVar l a).1 + 1) / 2)) (by omega) (by omega)]
  by_cases hm : (getVar l a).1 % 2 = 1
  · exact ev_pos hm (ev_cast (Ev.now _) (by rw [if_pos hm]))
  · exact ev_neg hm (ev_cast (Ev.now _) (by rw [if_neg hm]))
theorem spec_GetZig_ev (l : List Int) (a : Int) (hl : l.length ≤ 140737488355000) (hx : ∀ x ∈ l, 0 ≤ x ∧ x < 256) : Ev (fun k => spec_GetZig.f k l a) (zigOf (getVar l a)) := by
  simp only [spec_GetZig.f]
  refine Ev.bind (spec_GetVar_ev l a hl hx) ?_
  have h := getVar_range l a
  unfold zigOf
  by_cases hb : (getVar l a).2.2 = true
  · refine ev_pos hb ?_
    rw [tmod_pos h.1, tdiv_pos h.1, w64 (n := (getVar l a).1 + 1) (by omega) (by omega), w64 (n := -((getVar l a).1 + 1)) (by omega) (by omega), w64 (n := (getVar l a).1 / 2) (by omega) (by omega), Int.neg_tdiv, tdiv_pos (x := (getVar l a).1 + 1) (by omega), w64 (n := -(((getVar l a).1 + 1) / 2)) (by omega) (by omega)]
    by_cases hm : (getVar l a).1 % 2 = 1
    · exact ev_pos hm (ev_cast (Ev.now _) (by rw [if_pos hm, hb]))
    · exact ev_neg hm (ev_cast (Ev.now _) (by rw [if_neg hm, hb]))
  · refine ev_neg hb (ev_cast (Ev.now _) ?_)
    have hz := h.2.2 (by simpa using hb)
    rw [hz]
    rfl
theorem FnExactGetZig : laws_FnExactGetZig.Pure := by
  intro l a hl hl2 hw ha
  have hx : ∀ x ∈ l, 0 ≤ x ∧ x < 256 := fun x h => wf_u8 (hw x h)
  have ha2 := wf_i64 ha
  refine Ev.rounds (g := fun k => laws_FnExactGetZig.f k l a) ?_
  simp only [laws_FnExactGetZig.f]
  by_cases h : (l.length : Int) > 1048576
  · exact ev_pos h (Ev.now _)
  refine ev_neg h ?_
  have t := toByteS_ev l (by omega)
  refine Ev.bind t (Ev.bind (spec_GetZig_ev l a (by omega) hx) (Ev.bind t (Ev.bind (impl_GetZig_ev l a (by omega) hx ha2.2) ?_)))
  refine ev_pos rfl (ev_pos rfl ?_)
  refine Ev.step (fun k => (by simp only [laws_FnExactGetZig.j0]; exact rfl)) ?_
  exact ev_neg (by simp) (Ev.bind t (Ev.bind (eqByteS_ev l (by omega)) (ev_pos rfl (Ev.now _))))

end Go.Proofs.Ytcpmdkopbhddkaa.Pure
