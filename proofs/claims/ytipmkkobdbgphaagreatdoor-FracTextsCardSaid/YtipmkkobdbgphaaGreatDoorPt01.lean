/- Several texts in one: DecLaw, RefDecLaw, ReadLaw, ReadZ. -/
import Derived.Lib.ItoaNum
import Derived.Lib.Atoi
import Derived.Lib.RabinKarpLaws
import Derived.Lib.Itoa
set_option maxRecDepth 100000
set_option maxHeartbeats 8000000
/- Decimal digits by nines: plain Lean. -/
namespace Go.Proofs.YtipmkkobdbgphaaGreatDoor

def padN : Nat → Nat → List UInt8
  | 0, _ => []
  | k + 1, c => padN k (c / 10) ++ [UInt8.ofNat (48 + c % 10)]
theorem padN_length : ∀ (k c : Nat), (padN k c).length = k
  | 0, _ => rfl
  | k + 1, c => by simp [padN, padN_length k]
theorem dec_last {v : Nat} (h : 10 ≤ v) : Lib.decDigits v = Lib.decDigits (v / 10) ++ [UInt8.ofNat (48 + v % 10)] := by
  rw [Lib.decDigits, dif_neg (by omega)]
theorem dec_split : ∀ (k v : Nat), 10 ^ k ≤ v → Lib.decDigits v = Lib.decDigits (v / 10 ^ k) ++ padN k v
  | 0, v, _ => by simp [padN]
  | k + 1, v, h => by
    have e : 10 ^ (k + 1) = 10 * 10 ^ k := by rw [Nat.pow_succ, Nat.mul_comm]
    have hp : 0 < 10 ^ k := Nat.pow_pos (by omega)
    have h10 : 10 ≤ v := by
      have : 10 * 1 ≤ 10 * 10 ^ k := Nat.mul_le_mul_left _ hp
      omega
    have hk : 10 ^ k ≤ v / 10 := by
      rw [Nat.le_div_iff_mul_le (by omega), Nat.mul_comm]; omega
    rw [dec_last h10, dec_split k (v / 10) hk, padN, e, Nat.div_div_eq_div_mul, List.append_assoc]
theorem padN_dec : ∀ (k c : Nat), 0 < k → c < 10 ^ k → padN k c = List.replicate (k - (Lib.decDigits c).length) 48 ++ Lib.decDigits c
  | 0, _, h, _ => absurd h (by omega)
  | k + 1, c, _, hc => by
    rw [padN]
    rcases Nat.lt_or_ge c 10 with h | h
    · have e0 : c / 10 = 0 := by omega
      have em : c % 10 = c := by omega
      rw [e0, em, Lib.decDigits_one h]
      have z : ∀ j, padN j 0 = List.replicate j 48 := by
        intro j
        induction j with
        | zero => rfl
        | succ j ih => rw [padN, Nat.zero_div, ih, List.replicate_succ']; rfl
      rw [z]; simp
    · have hk : 0 < k := by
        rcases Nat.eq_zero_or_pos k with h0 | h0
        · subst h0; simp at hc; omega
        · exact h0
      have hc2 : c / 10 < 10 ^ k := by
        rw [Nat.div_lt_iff_lt_mul (by omega), Nat.mul_comm, ← Nat.pow_succ']; exact hc
      rw [padN_dec k (c / 10) hk hc2, dec_last h, List.append_assoc]
      simp
theorem padN_mod (k : Nat) : ∀ (c : Nat), padN k (c % 10 ^ k) = padN k c := by
  induction k with
  | zero => intro c; rfl
  | succ k ih =>
    intro c
    rw [padN, padN]
    have e : 10 ^ (k + 1) = 10 * 10 ^ k := by rw [Nat.pow_succ, Nat.mul_comm]
    have e1 : c % 10 ^ (k + 1) / 10 = c / 10 % 10 ^ k := by rw [e, Nat.mod_mul_right_div_self]
    have e2 : c % 10 ^ (k + 1) % 10 = c % 10 := by rw [e, Nat.mod_mul_right_mod]
    rw [e1, e2, ih]
theorem pad9 (c : Nat) (h : c < 1000000000) : padN 9 c = List.replicate (9 - (Lib.decDigits c).length) 48 ++ Lib.decDigits c := padN_dec 9 c (by omega) (by simpa using h)
theorem dec_nine {v : Nat} (h : 1000000000 ≤ v) : Lib.decDigits v = Lib.decDigits (v / 1000000000) ++ padN 9 (v % 1000000000) := by
  have e : (10 : Nat) ^ 9 = 1000000000 := by decide
  have := dec_split 9 v (by rw [e]; exact h)
  rw [← padN_mod, e] at this
  exact this
def chunks (v : Nat) : List Nat := if h : v = 0 then [] else (v % 1000000000) :: chunks (v / 1000000000)
decreasing_by omega
theorem chunks_nil : chunks 0 = [] := by rw [chunks, dif_pos rfl]
theorem chunks_cons {v : Nat} (h : v ≠ 0) : chunks v = (v % 1000000000) :: chunks (v / 1000000000) := by rw [chunks, dif_neg h]
theorem chunks_lt : ∀ (v : Nat), ∀ c ∈ chunks v, c < 1000000000 := by
  intro v
  induction v using Nat.strongRecOn with
  | ind v ih =>
    intro c hc
    by_cases h : v = 0
    · subst h; rw [chunks_nil] at hc; simp at hc
    · rw [chunks_cons h] at hc
      rcases List.mem_cons.1 hc with rfl | hc
      · omega
      · exact ih _ (by omega) c hc
def chunkText : List Nat → List UInt8
  | [] => []
  | [c] => Lib.decDigits c
  | c :: d :: r => chunkText (d :: r) ++ padN 9 c
theorem chunk_text : ∀ (v : Nat), v ≠ 0 → chunkText (chunks v) = Lib.decDigits v := by
  intro v
  induction v using Nat.strongRecOn with
  | ind v ih =>
    intro h
    rw [chunks_cons h]
    by_cases h2 : v / 1000000000 = 0
    · rw [h2, chunks_nil]
      show Lib.decDigits (v % 1000000000) = _
      rw [Nat.mod_eq_of_lt (by omega)]
    · rw [dec_nine (by omega), ← ih _ (by omega) h2, chunks_cons h2]
      rfl
theorem dec_short : ∀ (k c : Nat), 0 < k → c < 10 ^ k → (Lib.decDigits c).length ≤ k
  | 0, _, h, _ => absurd h (by omega)
  | k + 1, c, _, hc => by
    rcases Nat.lt_or_ge c 10 with h | h
    · rw [Lib.decDigits_one h]; simp
    · have hk : 0 < k := by
        rcases Nat.eq_zero_or_pos k with h0 | h0
        · subst h0; simp at hc; omega
        · exact h0
      have hc2 : c / 10 < 10 ^ k := by
        rw [Nat.div_lt_iff_lt_mul (by omega), Nat.mul_comm, ← Nat.pow_succ']; exact hc
      have := dec_short k (c / 10) hk hc2
      rw [dec_last h]; simp; omega
theorem dec_nine_len {c : Nat} (h : c < 1000000000) : (Lib.decDigits c).length ≤ 9 := dec_short 9 c (by omega) (by simpa using h)
theorem chunkText_length : ∀ (cs : List Nat), (∀ c ∈ cs, c < 1000000000) → (chunkText cs).length ≤ 9 * cs.length
  | [], _ => by simp [chunkText]
  | [c], h => by have := dec_nine_len (h c (by simp)); simp [chunkText]; omega
  | c :: d :: r, h => by
    have := chunkText_length (d :: r) (fun x hx => h x (List.mem_cons_of_mem _ hx))
    simp [chunkText, padN_length] at *
    omega
theorem chunk_top {cs : List Nat} {m : Nat} (h : m + 1 = cs.length) : chunkText (cs.drop m) = Lib.decDigits (cs[m]'(by omega)) := by
  have e : cs.drop m = [cs[m]'(by omega)] := by
    rw [List.drop_eq_getElem_cons (by omega), List.drop_eq_nil_of_le (by omega)]
  rw [e]; rfl
theorem chunk_next {cs : List Nat} {m : Nat} (h : m + 1 < cs.length) : chunkText (cs.drop m) = chunkText (cs.drop (m + 1)) ++ padN 9 (cs[m]'(by omega)) := by
  have e : cs.drop m = cs[m]'(by omega) :: cs[m + 1]'h :: cs.drop (m + 1 + 1) := by
    rw [List.drop_eq_getElem_cons (by omega), List.drop_eq_getElem_cons h]
  have e2 : cs.drop (m + 1) = cs[m + 1]'h :: cs.drop (m + 1 + 1) := List.drop_eq_getElem_cons h
  rw [e, e2]; rfl
/- Decimal digits, the lowest ahead, as the references write them: plain Lean. -/

def ldig : Nat → Nat → List UInt8
  | 0, _ => []
  | k + 1, c => UInt8.ofNat (48 + c % 10) :: ldig k (c / 10)
theorem ldig_length : ∀ (k c : Nat), (ldig k c).length = k
  | 0, _ => rfl
  | k + 1, c => by simp [ldig, ldig_length k]
theorem ldig_pad : ∀ (k c : Nat), ldig k c = (padN k c).reverse
  | 0, _ => rfl
  | k + 1, c => by rw [ldig, padN, List.reverse_append, ldig_pad k]; rfl
theorem ldig_more (k p : Nat) (hk : 0 < k) : ldig k p = UInt8.ofNat (48 + p % 10) :: ldig (k - 1) (p / 10) := by
  obtain ⟨j, rfl⟩ : ∃ j, k = j + 1 := ⟨k - 1, by omega⟩
  rfl
def lchunks (cs : List Nat) : List UInt8 := cs.flatMap fun c => ldig 9 c
theorem lchunks_length (cs : List Nat) : (lchunks cs).length = 9 * cs.length := by
  unfold lchunks
  induction cs with
  | nil => rfl
  | cons c cs ih => rw [List.flatMap_cons, List.length_append, ldig_length, ih, List.length_cons]; omega
theorem lchunks_text : ∀ (v : Nat), v ≠ 0 → ∃ z, lchunks (chunks v) = (Lib.decDigits v).reverse ++ List.replicate z 48 := by
  intro v
  induction v using Nat.strongRecOn with
  | ind v ih =>
    intro h
    rw [chunks_cons h]
    have e0 : lchunks (v % 1000000000 :: chunks (v / 1000000000)) = (padN 9 (v % 1000000000)).reverse ++ lchunks (chunks (v / 1000000000)) := by
      unfold lchunks
      rw [List.flatMap_cons, ldig_pad]
    rw [e0]
    by_cases h2 : v / 1000000000 = 0
    · refine ⟨9 - (Lib.decDigits v).length, ?_⟩
      rw [h2, chunks_nil, Nat.mod_eq_of_lt (by omega), pad9 v (by omega)]
      simp [lchunks]
    · obtain ⟨z, hz⟩ := ih _ (by omega) h2
      refine ⟨z, ?_⟩
      rw [hz, dec_nine (v := v) (by omega), List.reverse_append, List.append_assoc]
theorem dec_head : ∀ (v : Nat), v ≠ 0 → ∃ d r, Lib.decDigits v = d :: r ∧ d ≠ 48 := by
  intro v
  induction v using Nat.strongRecOn with
  | ind v ih =>
    intro h
    rcases Nat.lt_or_ge v 10 with h1 | h1
    · refine ⟨UInt8.ofNat (48 + v), [], Lib.decDigits_one h1, fun e => ?_⟩
      have := congrArg UInt8.toNat e
      simp at this
      omega
    · obtain ⟨d, r, e, hd⟩ := ih (v / 10) (by omega) (by omega)
      exact ⟨d, r ++ [UInt8.ofNat (48 + v % 10)], by rw [dec_last h1, e]; rfl, hd⟩
def turned8 (xs : List UInt8) (i : Nat) : List UInt8 := (xs.reverse.take i) ++ ((xs.drop i).take (xs.length - 2 * i)) ++ (xs.reverse.drop (xs.length - i))
/- A number's text, read: plain Lean. -/

theorem decFrom_append : ∀ (a b : List UInt8) (acc : Nat), Lib.decFrom acc (a ++ b) = (Lib.decFrom acc a).bind fun n => Lib.decFrom n b
  | [], b, acc => rfl
  | c :: a, b, acc => by
    simp only [List.cons_append, Lib.decFrom]
    cases h : Lib.digitVal c with
    | none => simp
    | some d => simpa using decFrom_append a b (acc * 10 + d)
theorem decFrom_scale : ∀ (l : List UInt8) (acc : Nat), Lib.decFrom acc l = (Lib.decFrom 0 l).map fun v => acc * 10 ^ l.length + v
  | [], acc => by simp [Lib.decFrom]
  | c :: l, acc => by
    simp only [Lib.decFrom]
    cases h : Lib.digitVal c with
    | none => simp
    | some d =>
      show Lib.decFrom (acc * 10 + d) l = Option.map _ (Lib.decFrom (0 * 10 + d) l)
      rw [decFrom_scale l (acc * 10 + d), decFrom_scale l (0 * 10 + d)]
      cases Lib.decFrom 0 l with
      | none => rfl
      | some v =>
        simp [List.length_cons, Nat.pow_succ]
        rw [Nat.add_mul, Nat.mul_assoc, Nat.mul_comm 10 (10 ^ l.length)]
        omega
theorem digitVal_digit {d : Nat} (h : d < 10) : Lib.digitVal (UInt8.ofNat (48 + d)) = some d := by
  have e : (UInt8.ofNat (48 + d)).toNat = 48 + d := by simp; omega
  unfold Lib.digitVal
  rw [e, if_pos (by omega)]
  congr 1
  omega
theorem read_digits : ∀ (v : Nat), Lib.decFrom 0 (Lib.decDigits v) = some v := by
  intro v
  induction v using Nat.strongRecOn with
  | ind v ih =>
    rcases Nat.lt_or_ge v 10 with h | h
    · rw [Lib.decDigits_one h]
      simp only [Lib.decFrom]
      rw [digitVal_digit h]
      simp
    · rw [dec_last h, decFrom_append, ih (v / 10) (by omega)]
      simp only [Option.bind_some, Lib.decFrom]
      rw [digitVal_digit (show v % 10 < 10 by omega)]
      simp
      omega
theorem digits_read : ∀ (n : Nat) (l : List UInt8), l.length = n → ∀ v, Lib.decFrom 0 l = some v → l ≠ [] → (l.head? ≠ some 48 ∨ l = [48]) → Lib.decDigits v = l := by
  intro n
  induction n with
  | zero => intro l hl v _ hne; exact absurd (List.eq_nil_of_length_eq_zero hl) hne
  | succ n ih =>
    intro l hl v hv hne hh
    obtain ⟨a, c, rfl⟩ : ∃ a c, l = a ++ [c] := ⟨l.dropLast, l.getLast hne, (List.dropLast_concat_getLast hne).symm⟩
    rw [decFrom_append] at hv
    cases ha : Lib.decFrom 0 a with
    | none => rw [ha] at hv; simp at hv
    | some u =>
      rw [ha] at hv
      simp only [Option.bind_some, Lib.decFrom] at hv
      cases hd : Lib.digitVal c with
      | none => rw [hd] at hv; simp at hv
      | some d =>
        rw [hd] at hv
        simp at hv
        obtain ⟨d1, d2, d3⟩ := Lib.digitVal_eq hd
        have ec : c = UInt8.ofNat (48 + d) := by
          apply UInt8.toNat_inj.1
          simp
          omega
        by_cases hae : a = []
        · subst hae
          simp [Lib.decFrom] at ha
          subst ha
          rw [show v = d by omega, Lib.decDigits_one (by omega), ec]
          rfl
        · have hu : u ≠ 0 := by
            intro e
            have := ih a (by simpa using hl) u ha hae (.inl (by
              intro e2
              rcases hh with h | h
              · apply h
                cases a with
                | nil => exact absurd rfl hae
                | cons x a => simpa using e2
              · have := congrArg List.length h
                simp at this
                exact hae this))
            rw [e, Lib.decDigits_one (by omega)] at this
            rcases hh with h | h
            · apply h
              rw [← this]
              rfl
            · have := congrArg List.length h
              simp at this
              exact hae this
          have hda := ih a (by simpa using hl) u ha hae (.inl (by
              intro e2
              rcases hh with h | h
              · apply h
                cases a with
                | nil => exact absurd rfl hae
                | cons x a => simpa using e2
              · have := congrArg List.length h
                simp at this
                exact hae this))
          rw [← hv, dec_last (by omega), show (u * 10 + d) / 10 = u by omega, show (u * 10 + d) % 10 = d by omega, hda, ec]
/- What a text of a whole number says: plain Lean. -/

def badD (D : List UInt8) (neg : Bool) : Bool := D.isEmpty || (D.head? == some 48 && (decide (1 < D.length) || neg))
def readN (D : List UInt8) (neg : Bool) : Option Nat := if badD D neg then none else Lib.decFrom 0 D
def negOf (s : List UInt8) : Bool := s.head? == some 45
def tailOf (s : List UInt8) : List UInt8 := if negOf s then s.tail else s
def readZ (s : List UInt8) : Option Int := (readN (tailOf s) (negOf s)).map fun n => if negOf s then -(n : Int) else n
theorem decFrom_none {l : List UInt8} {i : Nat} {b : UInt8} (h : l[i]? = some b) (hd : Lib.digitVal b = none) (acc : Nat) : Lib.decFrom acc l = none := by
  cases h2 : Lib.decFrom acc l with
  | none => rfl
  | some n =>
    obtain ⟨m, hm⟩ := Lib.decFrom_prefix l acc n h2 (i + 1)
    rw [List.take_add_one, h, Option.toList_some, decFrom_append] at hm
    cases h3 : Lib.decFrom acc (l.take i) with
    | none => rw [h3] at hm; cases hm
    | some k => rw [h3] at hm; simp [Lib.decFrom, hd] at hm
theorem digitVal_none {b : UInt8} (h : b.toNat < 48 ∨ 57 < b.toNat) : Lib.digitVal b = none := by
  unfold Lib.digitVal
  rw [if_neg (by omega)]
theorem digitVal_some {b : UInt8} (h1 : 48 ≤ b.toNat) (h2 : b.toNat ≤ 57) : Lib.digitVal b = some (b.toNat - 48) := by
  unfold Lib.digitVal
  rw [if_pos ⟨h1, h2⟩]
theorem decFrom_join {a b : List UInt8} {v p : Nat} (ha : Lib.decFrom 0 a = some v) (hb : Lib.decFrom 0 b = some p) : Lib.decFrom 0 (a ++ b) = some (v * 10 ^ b.length + p) := by
  rw [decFrom_append, ha]
  show Lib.decFrom v b = _
  rw [decFrom_scale, hb]
  rfl
theorem take_split (l : List UInt8) {i j : Nat} (h : i ≤ j) : l.take j = l.take i ++ (l.drop i).take (j - i) := by
  obtain ⟨k, rfl⟩ : ∃ k, j = i + k := ⟨j - i, by omega⟩
  rw [List.take_add, Nat.add_sub_cancel_left]
end Go.Proofs.YtipmkkobdbgphaaGreatDoor
