/- Several texts in one: RefDecLaw, ReadLaw. -/
import Derived.Test.YtbdliabfdplohaaDoorBt09
import Derived.Lib.Atoi
set_option maxRecDepth 100000
set_option maxHeartbeats 8000000
/- Decimal digits, the lowest ahead, as the references write them: plain Lean. -/
namespace Go.Proofs.YtbdliabfdplohaaDoor

def ldig : Nat → Nat → List UInt8
  | 0, _ => []
  | k + 1, c => UInt8.ofNat (48 + c % 10) :: ldig k (c / 10)
theorem ldig_length : ∀ (k c : Nat), (ldig k c).length = k
  | 0, _ => rfl
  | k + 1, c => by simp [ldig, ldig_length k]
theorem ldig_pad : ∀ (k c : Nat), ldig k c = (padN k c).reverse
  | 0, _ => rfl
  | k + 1, c => by rw [ldig, padN, List.reverse_append, ldig_pad k]; rfl
theorem ldig_more (k p : Nat) (hk : 0 < k) : ldig k p = UInt8.ofNat (48 + p % 10) :: ldig (k - 1) (p / 10) := by
  obtain ⟨j, rfl⟩ : ∃ j, k = j + 1 := ⟨k - 1, by omega⟩
  rfl
def lchunks (cs : List Nat) : List UInt8 := cs.flatMap fun c => ldig 9 c
theorem lchunks_length (cs : List Nat) : (lchunks cs).length = 9 * cs.length := by
  unfold lchunks
  induction cs with
  | nil => rfl
  | cons c cs ih => rw [List.flatMap_cons, List.length_append, ldig_length, ih, List.length_cons]; omega
theorem lchunks_text : ∀ (v : Nat), v ≠ 0 → ∃ z, lchunks (chunks v) = (Lib.decDigits v).reverse ++ List.replicate z 48 := by
  intro v
  induction v using Nat.strongRecOn with
  | ind v ih =>
    intro h
    rw [chunks_cons h]
    have e0 : lchunks (v % 1000000000 :: chunks (v / 1000000000)) = (padN 9 (v % 1000000000)).reverse ++ lchunks (chunks (v / 1000000000)) := by
      unfold lchunks
      rw [List.flatMap_cons, ldig_pad]
    rw [e0]
    by_cases h2 : v / 1000000000 = 0
    · refine ⟨9 - (Lib.decDigits v).length, ?_⟩
      rw [h2, chunks_nil, Nat.mod_eq_of_lt (by omega), pad9 v (by omega)]
      simp [lchunks]
    · obtain ⟨z, hz⟩ := ih _ (by omega) h2
      refine ⟨z, ?_⟩
      rw [hz, dec_nine (v := v) (by omega), List.reverse_append, List.append_assoc]
theorem dec_head : ∀ (v : Nat), v ≠ 0 → ∃ d r, Lib.decDigits v = d :: r ∧ d ≠ 48 := by
  intro v
  induction v using Nat.strongRecOn with
  | ind v ih =>
    intro h
    rcases Nat.lt_or_ge v 10 with h1 | h1
    · refine ⟨UInt8.ofNat (48 + v), [], Lib.decDigits_one h1, fun e => ?_⟩
      have := congrArg UInt8.toNat e
      simp at this
      omega
    · obtain ⟨d, r, e, hd⟩ := ih (v / 10) (by omega) (by omega)
      exact ⟨d, r ++ [UInt8.ofNat (48 + v % 10)], by rw [dec_last h1, e]; rfl, hd⟩
def turned8 (xs : List UInt8) (i : Nat) : List UInt8 := (xs.reverse.take i) ++ ((xs.drop i).take (xs.length - 2 * i)) ++ (xs.reverse.drop (xs.length - i))
/- A number's text, read: plain Lean. -/

theorem decFrom_append : ∀ (a b : List UInt8) (acc : Nat), Lib.decFrom acc (a ++ b) = (Lib.decFrom acc a).bind fun n => Lib.decFrom n b
  | [], b, acc => rfl
  | c :: a, b, acc => by
    simp only [List.cons_append, Lib.decFrom]
    cases h : Lib.digitVal c with
    | none => simp
    | some d => simpa using decFrom_append a b (acc * 10 + d)
theorem decFrom_scale : ∀ (l : List UInt8) (acc : Nat), Lib.decFrom acc l = (Lib.decFrom 0 l).map fun v => acc * 10 ^ l.length + v
  | [], acc => by simp [Lib.decFrom]
  | c :: l, acc => by
    simp only [Lib.decFrom]
    cases h : Lib.digitVal c with
    | none => simp
    | some d =>
      show Lib.decFrom (acc * 10 + d) l = Option.map _ (Lib.decFrom (0 * 10 + d) l)
      rw [decFrom_scale l (acc * 10 + d), decFrom_scale l (0 * 10 + d)]
      cases Lib.decFrom 0 l with
      | none => rfl
      | some v =>
        simp [List.length_cons, Nat.pow_succ]
        rw [Nat.add_mul, Nat.mul_assoc, Nat.mul_comm 10 (10 ^ l.length)]
        omega
end Go.Proofs.YtbdliabfdplohaaDoor
