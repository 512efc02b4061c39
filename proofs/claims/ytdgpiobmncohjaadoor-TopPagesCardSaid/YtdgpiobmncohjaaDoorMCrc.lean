/-
  The sum is linear, and bits that are turned within 32 side by side are seen. Plain Lean, no program in sight.
-/
import Derived.Test.YtdgpiobmncohjaaDoorPRef02
set_option linter.unusedSimpArgs false
set_option linter.unusedVariables false
namespace Go.Proofs.YtdgpiobmncohjaaDoor.Aw
open Go.RowKit

theorem step1_eq (c : BitVec 32) : step1 c = (c <<< 1) ^^^ (if c.getLsbD 31 then 79764919#32 else 0#32) := by
  rw [step1, shr31]
  cases c.getLsbD 31 <;> simp

theorem step1_xor (a b : BitVec 32) : step1 (a ^^^ b) = step1 a ^^^ step1 b := by
  rw [step1_eq, step1_eq, step1_eq, BitVec.shiftLeft_xor_distrib, BitVec.getLsbD_xor]
  cases a.getLsbD 31 <;> cases b.getLsbD 31 <;> simp
  · rw [BitVec.xor_assoc]
  · rw [BitVec.xor_assoc, BitVec.xor_assoc, BitVec.xor_comm (b <<< 1)]
  · rw [show a <<< 1 ^^^ 79764919#32 ^^^ (b <<< 1 ^^^ 79764919#32) = a <<< 1 ^^^ b <<< 1 ^^^ (79764919#32 ^^^ 79764919#32) by
      rw [BitVec.xor_assoc, BitVec.xor_assoc, BitVec.xor_comm (b <<< 1) 79764919#32, ← BitVec.xor_assoc 79764919#32 79764919#32, BitVec.xor_comm _ (b <<< 1)]]
    simp

theorem stepN_xor : ∀ (n : Nat) (a b : BitVec 32), stepN n (a ^^^ b) = stepN n a ^^^ stepN n b
  | 0, _, _ => rfl
  | n + 1, a, b => by rw [stepN, stepN, stepN, step1_xor, stepN_xor n]

theorem step1_zero {c : BitVec 32} (h : step1 c = 0#32) : c = 0#32 := by
  rw [step1_eq] at h
  have h0 := congrArg (fun x => BitVec.getLsbD x 0) h
  cases hc : c.getLsbD 31
  · rw [hc] at h
    simp at h
    apply BitVec.eq_of_getLsbD_eq
    intro i hi
    by_cases h31 : i = 31
    · subst h31; rw [hc]; simp
    · have := congrArg (fun x => BitVec.getLsbD x (i + 1)) h
      simp [BitVec.getLsbD_shiftLeft] at this
      rw [this (by omega)]; simp
  · rw [hc] at h0
    simp at h0

theorem stepN_zero : ∀ (n : Nat) {c : BitVec 32}, stepN n c = 0#32 → c = 0#32
  | 0, _, h => h
  | n + 1, _, h => step1_zero (stepN_zero n h)

theorem stepN_inj {n : Nat} {a b : BitVec 32} (h : stepN n a = stepN n b) : a = b := by
  have : stepN n (a ^^^ b) = 0#32 := by rw [stepN_xor, h, BitVec.xor_self]
  have := stepN_zero n this
  exact BitVec.xor_eq_zero_iff.mp this

theorem nextS_xor (c d : BitVec 32) (a b : UInt8) : nextS (c ^^^ d) (a ^^^ b) = nextS c a ^^^ nextS d b := by
  have e : (a ^^^ b).toBitVec = a.toBitVec ^^^ b.toBitVec := rfl
  have e2 : (c ^^^ d) ^^^ (BitVec.setWidth 32 (a ^^^ b).toBitVec <<< 24) = (c ^^^ (BitVec.setWidth 32 a.toBitVec <<< 24)) ^^^ (d ^^^ (BitVec.setWidth 32 b.toBitVec <<< 24)) := by
    rw [e, BitVec.setWidth_xor, BitVec.shiftLeft_xor_distrib]
    generalize BitVec.setWidth 32 a.toBitVec <<< 24 = x
    generalize BitVec.setWidth 32 b.toBitVec <<< 24 = y
    rw [BitVec.xor_assoc, BitVec.xor_assoc, ← BitVec.xor_assoc d, BitVec.xor_comm d, BitVec.xor_assoc]
  exact (congrArg (stepN 8) e2).trans (stepN_xor 8 _ _)

theorem foldS_xor : ∀ (s t : List UInt8) (c d : BitVec 32), s.length = t.length → foldS (c ^^^ d) (List.zipWith (· ^^^ ·) s t) = foldS c s ^^^ foldS d t
  | [], [], _, _, _ => rfl
  | a :: s, b :: t, c, d, h => by
    simp only [foldS, List.zipWith_cons_cons, List.foldl_cons, nextS_xor]
    exact foldS_xor s t _ _ (by simpa using h)

theorem stepN_add : ∀ (m n : Nat) (c : BitVec 32), stepN (m + n) c = stepN n (stepN m c)
  | 0, n, c => by rw [Nat.zero_add]; rfl
  | m + 1, n, c => by rw [show m + 1 + n = (m + n) + 1 by omega, stepN, stepN_add m n]; rfl

/-- One bit of zero at the bottom: as long as nothing falls out at the top, a step is a shift. -/
theorem stepN_small : ∀ (n : Nat) (c : BitVec 32), (∀ i, 32 - n ≤ i → c.getLsbD i = false) → stepN n c = c <<< n
  | 0, c, _ => by simp [stepN]
  | n + 1, c, h => by
    have h31 : c.getLsbD 31 = false := h 31 (by omega)
    rw [stepN, step1_eq, h31]
    simp only [Bool.false_eq_true, if_false, BitVec.xor_zero]
    rw [stepN_small n (c <<< 1) (fun i hi => by
      rw [BitVec.getLsbD_shiftLeft]
      by_cases h1 : i < 1
      · simp [h1]
      · rw [h (i - 1) (by omega)]; simp), ← BitVec.shiftLeft_add, Nat.add_comm]

/-- One bit of text. -/
def stepB (r : BitVec 32) (b : Bool) : BitVec 32 := step1 (r ^^^ (if b then 2147483648#32 else 0#32))
def foldN (r : BitVec 32) (f : Nat → Bool) : Nat → BitVec 32
  | 0 => r
  | n + 1 => stepB (foldN r f n) (f n)

theorem stepB_xor (r q : BitVec 32) (a b : Bool) : stepB (r ^^^ q) (a ^^ b) = stepB r a ^^^ stepB q b := by
  rw [stepB, stepB, stepB, ← step1_xor]
  congr 1
  have e : (if (a ^^ b) = true then 2147483648#32 else 0#32) = (if a = true then 2147483648#32 else 0#32) ^^^ (if b = true then 2147483648#32 else 0#32) := by
    cases a <;> cases b <;> decide
  rw [e]
  generalize (if a = true then 2147483648#32 else 0#32) = x
  generalize (if b = true then 2147483648#32 else 0#32) = y
  rw [BitVec.xor_assoc, BitVec.xor_assoc, ← BitVec.xor_assoc q, BitVec.xor_comm q, BitVec.xor_assoc]

theorem foldN_xor (r q : BitVec 32) (f g : Nat → Bool) : ∀ n, foldN (r ^^^ q) (fun i => f i ^^ g i) n = foldN r f n ^^^ foldN q g n
  | 0 => rfl
  | n + 1 => by rw [foldN, foldN, foldN, foldN_xor r q f g n, stepB_xor]

theorem foldN_add (r : BitVec 32) (f : Nat → Bool) (m : Nat) : ∀ n, foldN r f (m + n) = foldN (foldN r f m) (fun i => f (m + i)) n
  | 0 => rfl
  | n + 1 => by rw [← Nat.add_assoc, foldN, foldN, foldN_add r f m n]

theorem foldN_congr (r : BitVec 32) {f g : Nat → Bool} : ∀ n, (∀ i, i < n → f i = g i) → foldN r f n = foldN r g n
  | 0, _ => rfl
  | n + 1, h => by rw [foldN, foldN, foldN_congr r n (fun i hi => h i (by omega)), h n (by omega)]

theorem foldN_zeros (r : BitVec 32) : ∀ n, foldN r (fun _ => false) n = stepN n r
  | 0 => rfl
  | n + 1 => by rw [foldN, foldN_zeros r n, stepN_succ, stepB]; simp

theorem step1_top (b : Bool) : step1 (if b then 2147483648#32 else 0#32) = if b then 79764919#32 else 0#32 := by
  cases b <;> decide

theorem window (A : BitVec 32) : ∀ n, n ≤ 32 → stepN n A = foldN 0#32 (fun i => A.getLsbD (31 - i)) n ^^^ (A <<< n)
  | 0, _ => by simp [stepN, foldN]
  | n + 1, h => by
    rw [stepN_succ, window A n (by omega), step1_xor, foldN, stepB, step1_xor, step1_top, step1_eq (A <<< n), ← BitVec.shiftLeft_add]
    have : (A <<< n).getLsbD 31 = A.getLsbD (31 - n) := by
      rw [BitVec.getLsbD_shiftLeft]
      have h1 : decide (31 < 32) = true := by decide
      have h2 : decide (31 < n) = false := by simp; omega
      rw [h1, h2]; simp
    rw [this, BitVec.xor_assoc]
    congr 1
    exact BitVec.xor_comm _ _

/-- A window of at most 32 bits with a bit in it is seen. -/
theorem window_seen (A : BitVec 32) (n : Nat) (hn : n ≤ 32) (h : foldN 0#32 (fun i => A.getLsbD (31 - i)) n = 0#32) : ∀ i, i < n → A.getLsbD (31 - i) = false := by
  let B : BitVec 32 := (A >>> (32 - n)) <<< (32 - n)
  have hB : ∀ i, i < n → B.getLsbD (31 - i) = A.getLsbD (31 - i) := by
    intro i hi
    simp only [B, BitVec.getLsbD_shiftLeft, BitVec.getLsbD_ushiftRight]
    have h1 : decide (31 - i < 32) = true := by simp; omega
    have h2 : decide (31 - i < 32 - n) = false := by simp; omega
    rw [h1, h2, show 32 - n + (31 - i - (32 - n)) = 31 - i by omega]; simp
  have h0 : B <<< n = 0#32 := by
    simp only [B]
    rw [← BitVec.shiftLeft_add]
    exact BitVec.shiftLeft_eq_zero (by omega)
  have hw := window B n hn
  rw [h0, foldN_congr 0#32 n hB, h, BitVec.xor_self] at hw
  have hz := stepN_zero n hw
  intro i hi
  rw [← hB i hi, hz]; simp

theorem window' (r A : BitVec 32) (n : Nat) (hn : n ≤ 32) : stepN n (r ^^^ A) = foldN r (fun i => A.getLsbD (31 - i)) n ^^^ (A <<< n) := by
  have h := foldN_xor r 0#32 (fun _ => false) (fun i => A.getLsbD (31 - i)) n
  rw [foldN_zeros, BitVec.xor_zero] at h
  have e : (fun i => false ^^ A.getLsbD (31 - i)) = fun i => A.getLsbD (31 - i) := by funext i; simp
  rw [e] at h
  rw [stepN_xor, window A n hn, h, BitVec.xor_assoc]

theorem nextS_bits (r : BitVec 32) (b : UInt8) : nextS r b = foldN r (fun k => b.toNat.testBit (7 - k)) 8 := by
  have e : (BitVec.setWidth 32 b.toBitVec <<< 24) <<< 8 = 0#32 := by
    rw [← BitVec.shiftLeft_add]; exact BitVec.shiftLeft_eq_zero (by omega)
  rw [nextS, window' r (BitVec.setWidth 32 b.toBitVec <<< 24) 8 (by omega), e, BitVec.xor_zero]
  refine foldN_congr _ 8 fun i hi => ?_
  rw [BitVec.getLsbD_shiftLeft, BitVec.getLsbD_setWidth]
  have h1 : decide (31 - i < 32) = true := by simp; omega
  have h2 : decide (31 - i < 24) = false := by simp; omega
  have h3 : decide (31 - i - 24 < 32) = true := by simp; omega
  rw [h1, h2, h3, show 31 - i - 24 = 7 - i by omega]
  simp [BitVec.getLsbD]

/-- The bit at a place, the highest of each byte first. -/
def bitAt (l : List UInt8) (p : Nat) : Bool := (l.getD (p / 8) 0).toNat.testBit (7 - p % 8)

theorem foldS_bits : ∀ (s : List UInt8) (c : BitVec 32), foldS c s = foldN c (bitAt s) (8 * s.length)
  | [], _ => rfl
  | a :: s, c => by
    have h1 : 8 * (a :: s).length = 8 + 8 * s.length := by simp; omega
    rw [h1, foldN_add, foldS, List.foldl_cons, nextS_bits]
    have e1 : foldN c (fun k => a.toNat.testBit (7 - k)) 8 = foldN c (bitAt (a :: s)) 8 := by
      refine foldN_congr _ 8 fun i hi => ?_
      have : i / 8 = 0 := by omega
      rw [bitAt, this, show i % 8 = i by omega]; rfl
    have e2 : (fun i => bitAt (a :: s) (8 + i)) = bitAt s := by
      funext i
      rw [bitAt, bitAt, show (8 + i) / 8 = i / 8 + 1 by omega, show (8 + i) % 8 = i % 8 by omega]; rfl
    rw [e1, e2]
    exact foldS_bits s _

theorem low8_bit (c : BitVec 32) (k j : Nat) (hj : j < 8) : (low8 (c >>> k)).toNat.testBit j = c.getLsbD (k + j) := by
  rw [low8, UInt8.toNat_ofNat', Nat.testBit_mod_two_pow]
  simp [hj, BitVec.getLsbD]

theorem tail4_bit (c : BitVec 32) (i : Nat) (hi : i < 32) : bitAt (tail4 c) i = c.getLsbD (31 - i) := by
  have h0 : low8 c = low8 (c >>> 0) := by simp
  rw [bitAt, tail4]
  have : i / 8 = 0 ∨ i / 8 = 1 ∨ i / 8 = 2 ∨ i / 8 = 3 := by omega
  rcases this with h | h | h | h <;> rw [h]
  · show (low8 (c >>> 24)).toNat.testBit _ = _
    rw [low8_bit _ _ _ (by omega)]; congr 1; omega
  · show (low8 (c >>> 16)).toNat.testBit _ = _
    rw [low8_bit _ _ _ (by omega)]; congr 1; omega
  · show (low8 (c >>> 8)).toNat.testBit _ = _
    rw [low8_bit _ _ _ (by omega)]; congr 1; omega
  · show (low8 c).toNat.testBit _ = _
    rw [h0, low8_bit _ _ _ (by omega)]; congr 1; omega

theorem fold_tail4 (r w : BitVec 32) : foldS r (tail4 w) = stepN 32 (r ^^^ w) := by
  rw [foldS_bits, window' r w 32 (by omega), BitVec.shiftLeft_eq_zero (by omega), BitVec.xor_zero]
  exact foldN_congr _ 32 fun i hi => tail4_bit w i hi

def wordOf (a b c d : UInt8) : BitVec 32 := BitVec.ofNat 32 (a.toNat * 16777216 + b.toNat * 65536 + c.toNat * 256 + d.toNat)
theorem tail4_word (a b c d : UInt8) : tail4 (wordOf a b c d) = [a, b, c, d] := by
  have ha := a.toNat_lt; have hb := b.toNat_lt; have hc := c.toNat_lt; have hd := d.toNat_lt
  simp only [tail4, low8, wordOf, BitVec.toNat_ushiftRight, BitVec.toNat_ofNat, Nat.shiftRight_eq_div_pow]
  have e : (a.toNat * 16777216 + b.toNat * 65536 + c.toNat * 256 + d.toNat) % 2 ^ 32 = a.toNat * 16777216 + b.toNat * 65536 + c.toNat * 256 + d.toNat := Nat.mod_eq_of_lt (by omega)
  rw [e]
  have f (x : UInt8) (n : Nat) (h : n % 256 = x.toNat) : UInt8.ofNat n = x := by
    apply UInt8.toNat_inj.mp; rw [UInt8.toNat_ofNat']; exact h
  rw [f a _ (by omega), f b _ (by omega), f c _ (by omega), f d _ (by omega)]

theorem tail4_inj {v w : BitVec 32} (h : tail4 v = tail4 w) : v = w := by
  apply BitVec.eq_of_getLsbD_eq
  intro i hi
  have := congrArg (fun l => bitAt l (31 - i)) h
  simp only [tail4_bit v (31 - i) (by omega), tail4_bit w (31 - i) (by omega)] at this
  rwa [show 31 - (31 - i) = i by omega] at this

theorem foldS_append (c : BitVec 32) (s t : List UInt8) : foldS c (s ++ t) = foldS (foldS c s) t := by simp [foldS, List.foldl_append]

theorem seal_iff (x : List UInt8) (w : BitVec 32) : sealS x = x ++ tail4 w ↔ foldS (~~~ 0#32) (x ++ tail4 w) = stepN 32 (~~~ 0#32) := by
  rw [foldS_append, fold_tail4, sealS, List.append_cancel_left_eq, sumS, moreS]
  generalize foldS (~~~ 0#32) x = F
  have ea : ~~~ 0#32 = BitVec.allOnes 32 := by decide
  have en : ~~~ F = F ^^^ ~~~ 0#32 := by rw [ea, BitVec.xor_allOnes]
  constructor
  · intro h
    rw [← tail4_inj h, en, ← BitVec.xor_assoc, BitVec.xor_self, BitVec.zero_xor]
  · intro h
    have := stepN_inj h
    rw [en, ← this, ← BitVec.xor_assoc, BitVec.xor_self, BitVec.zero_xor]

/-- A bit turned. -/
def flipAt (l : List UInt8) (p : Nat) : List UInt8 := l.set (p / 8) (l.getD (p / 8) 0 ^^^ (128 >>> UInt8.ofNat (p % 8)))

theorem mask_bit (j i : Nat) (hj : j < 8) (hi : i < 8) : ((128 : UInt8) >>> UInt8.ofNat j).toNat.testBit (7 - i) = decide (i = j) := by
  have : ∀ j, j < 8 → ∀ i, i < 8 → ((128 : UInt8) >>> UInt8.ofNat j).toNat.testBit (7 - i) = decide (i = j) := by decide
  exact this j hj i hi

theorem flip_bit (l : List UInt8) (p i : Nat) (hp : p < 8 * l.length) : bitAt (flipAt l p) i = (bitAt l i ^^ decide (i = p)) := by
  rw [bitAt, bitAt, flipAt]
  by_cases h : i / 8 = p / 8
  · have e : (l.set (p / 8) (l.getD (p / 8) 0 ^^^ 128 >>> UInt8.ofNat (p % 8))).getD (i / 8) 0 = l.getD (p / 8) 0 ^^^ 128 >>> UInt8.ofNat (p % 8) := by
      rw [h, List.getD_eq_getElem?_getD, List.getElem?_set_self (by omega)]; rfl
    rw [e, h, UInt8.toNat_xor, Nat.testBit_xor, mask_bit _ _ (by omega) (by omega)]
    congr 1
    simp only [decide_eq_decide]; omega
  · have e : (l.set (p / 8) (l.getD (p / 8) 0 ^^^ 128 >>> UInt8.ofNat (p % 8))).getD (i / 8) 0 = l.getD (i / 8) 0 := by
      rw [List.getD_eq_getElem?_getD, List.getElem?_set_ne (fun e => h e.symm), List.getD_eq_getElem?_getD]
    rw [e]
    have : decide (i = p) = false := by simp; intro e; exact h (by rw [e])
    rw [this]; simp

theorem flip_length (l : List UInt8) (p : Nat) : (flipAt l p).length = l.length := by simp [flipAt]

/-- The first k bits of a burst laid on. -/
def flips (l : List UInt8) (first : Nat) (A : BitVec 32) : Nat → List UInt8
  | 0 => l
  | k + 1 => if first + k < 8 * l.length ∧ A.getLsbD (31 - k) = true then flipAt (flips l first A k) (first + k) else flips l first A k

theorem flips_length (l : List UInt8) (first : Nat) (A : BitVec 32) : ∀ k, (flips l first A k).length = l.length
  | 0 => rfl
  | k + 1 => by rw [flips]; split <;> simp [flip_length, flips_length l first A k]

theorem flips_bit (l : List UInt8) (first : Nat) (A : BitVec 32) (i : Nat) : ∀ k, bitAt (flips l first A k) i = (bitAt l i ^^ (decide (first ≤ i) && decide (i < first + k) && decide (i < 8 * l.length) && A.getLsbD (31 - (i - first))))
  | 0 => by
    have : (decide (first ≤ i) && decide (i < first + 0)) = false := by simp
    rw [this]; simp [flips]
  | k + 1 => by
    rw [flips]
    split
    · rename_i h
      rw [flip_bit _ _ _ (by rw [flips_length]; exact h.1), flips_bit l first A i k]
      by_cases e : i = first + k
      · subst e
        simp [h.1, h.2]
      · have e1 : decide (i = first + k) = false := by simpa using e
        have e2 : decide (i < first + (k + 1)) = decide (i < first + k) := by simp only [decide_eq_decide]; omega
        rw [e1, e2]; simp
    · rename_i h
      rw [flips_bit l first A i k]
      by_cases e : i = first + k
      · subst e
        by_cases h2 : first + k < 8 * l.length
        · have : A.getLsbD (31 - k) = false := by
            cases hh : A.getLsbD (31 - k)
            · rfl
            · exact absurd ⟨h2, hh⟩ h
          simp [this]
        · simp [h2]
      · have e2 : decide (i < first + (k + 1)) = decide (i < first + k) := by simp only [decide_eq_decide]; omega
        rw [e2]

theorem flips_none (l : List UInt8) (first : Nat) (A : BitVec 32) (h : ∀ k, k < 32 → first + k < 8 * l.length → A.getLsbD (31 - k) = false) : ∀ k, k ≤ 32 → flips l first A k = l
  | 0, _ => rfl
  | k + 1, hk => by
    rw [flips, if_neg, flips_none l first A h k (by omega)]
    rintro ⟨h1, h2⟩
    rw [h k (by omega) h1] at h2; cases h2

/-- A BURST IS SEEN. -/
theorem burst_seen (l : List UInt8) (first : Nat) (A : BitVec 32) (c : BitVec 32) (h : foldS c (flips l first A 32) = foldS c l) : flips l first A 32 = l := by
  refine flips_none l first A (fun k hk hlt => ?_) 32 (by omega)
  let n := min 32 (8 * l.length - first)
  have hk' : k < n := by simp only [n]; omega
  rw [foldS_bits, foldS_bits, flips_length] at h
  let pat : Nat → Bool := fun i => decide (first ≤ i) && decide (i < first + 32) && decide (i < 8 * l.length) && A.getLsbD (31 - (i - first))
  have hx := foldN_xor c 0#32 (bitAt l) pat (8 * l.length)
  rw [BitVec.xor_zero] at hx
  have hc : foldN c (bitAt (flips l first A 32)) (8 * l.length) = foldN c (fun i => bitAt l i ^^ pat i) (8 * l.length) := foldN_congr c _ fun i _ => flips_bit l first A i 32
  rw [hc, hx] at h
  have h0 : foldN 0#32 pat (8 * l.length) = 0#32 := by
    have := congrArg (fun x => foldN c (bitAt l) (8 * l.length) ^^^ x) h
    simp only [← BitVec.xor_assoc, BitVec.xor_self, BitVec.zero_xor] at this
    exact this
  have hN : 8 * l.length = first + (n + (8 * l.length - first - n)) := by simp only [n]; omega
  rw [hN, foldN_add, foldN_add] at h0
  have z1 : foldN 0#32 pat first = 0#32 := by
    rw [foldN_congr 0#32 (g := fun _ => false) first (fun i hi => by simp [pat]; omega), foldN_zeros]
    have := stepN_xor first 0#32 0#32
    rw [BitVec.xor_self, BitVec.xor_self] at this
    exact this
  rw [z1] at h0
  have z2 : foldN (foldN 0#32 (fun i => pat (first + i)) n) (fun i => pat (first + (n + i))) (8 * l.length - first - n) = stepN (8 * l.length - first - n) (foldN 0#32 (fun i => pat (first + i)) n) := by
    rw [foldN_congr _ (g := fun _ => false) _ (fun i hi => by simp [pat, n]; omega), foldN_zeros]
  rw [z2] at h0
  have h1 := stepN_zero _ h0
  have h2 : foldN 0#32 (fun i => A.getLsbD (31 - i)) n = 0#32 := by
    refine Eq.trans (foldN_congr _ n fun i hi => ?_) h1
    have a1 : i < 32 := by simp only [n] at hi; omega
    have a2 : first + i < 8 * l.length := by simp only [n] at hi; omega
    simp [pat, a1, a2]
  exact window_seen A n (by simp only [n]; omega) h2 k hk'

end Go.Proofs.YtdgpiobmncohjaaDoor.Aw
