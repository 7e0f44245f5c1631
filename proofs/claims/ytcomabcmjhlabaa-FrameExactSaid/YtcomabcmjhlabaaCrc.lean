/- Plain arithmetic of checksums by a divisor over numbers: no program in sight. -/
import Derived.RowKit
namespace Go.Proofs.Ytcomabcmjhlabaa.Crc

/-- One bit falls out. -/
def dn (D r : Nat) : Nat := if r % 2 = 1 then (r / 2) ^^^ D else r / 2
def dnk (D : Nat) : Nat → Nat → Nat
  | 0, r => r
  | k + 1, r => dnk D k (dn D r)
def crc (D r : Nat) (bs : List Nat) : Nat := bs.foldl (fun r c => dnk D 8 (r ^^^ c)) r
/-- A text as one number, the first byte the lowest. -/
def val : List Nat → Nat
  | [] => 0
  | c :: cs => c ^^^ (256 * val cs)

theorem xlc (a b c : Nat) : a ^^^ (b ^^^ c) = b ^^^ (a ^^^ c) := by
  rw [← Nat.xor_assoc, Nat.xor_comm a b, Nat.xor_assoc]
theorem xself (a b : Nat) : a ^^^ (a ^^^ b) = b := by
  rw [← Nat.xor_assoc, Nat.xor_self, Nat.zero_xor]
theorem xeq0 {a b : Nat} (h : a ^^^ b = 0) : a = b := by
  have := xself a b
  rw [h, Nat.xor_zero] at this
  exact this
theorem xor4 (a b c d : Nat) : (a ^^^ b) ^^^ (c ^^^ d) = (a ^^^ c) ^^^ (b ^^^ d) := by
  rw [Nat.xor_assoc, xlc b c d, ← Nat.xor_assoc]
theorem mul_xor (i a b : Nat) : 2 ^ i * (a ^^^ b) = (2 ^ i * a) ^^^ (2 ^ i * b) := by
  apply Nat.eq_of_testBit_eq
  intro j
  simp only [Nat.testBit_xor, Nat.testBit_two_pow_mul]
  cases decide (j ≥ i) <;> simp

theorem dn_xor (D a b : Nat) : dn D (a ^^^ b) = dn D a ^^^ dn D b := by
  unfold dn
  rw [Nat.xor_div_two]
  have h := @Nat.xor_mod_two_eq_one a b
  by_cases ha : a % 2 = 1 <;> by_cases hb : b % 2 = 1
  · rw [if_neg (by rw [h]; simp [ha, hb]), if_pos ha, if_pos hb, xor4, Nat.xor_self, Nat.xor_zero]
  · rw [if_pos (by rw [h]; simp [ha, hb]), if_pos ha, if_neg hb, Nat.xor_assoc, Nat.xor_assoc, Nat.xor_comm D]
  · rw [if_pos (by rw [h]; simp [ha, hb]), if_neg ha, if_pos hb, Nat.xor_assoc]
  · rw [if_neg (by rw [h]; simp [ha, hb]), if_neg ha, if_neg hb]
theorem dn_two (D m : Nat) : dn D (2 * m) = m := by
  unfold dn
  rw [if_neg (by omega)]; omega
theorem dnk_xor (D k : Nat) : ∀ a b, dnk D k (a ^^^ b) = dnk D k a ^^^ dnk D k b := by
  induction k with
  | zero => intro a b; rfl
  | succ k ih => intro a b; simp only [dnk]; rw [dn_xor, ih]
theorem dnk_pow (D k : Nat) : ∀ m, dnk D k (2 ^ k * m) = m := by
  induction k with
  | zero => intro m; simp [dnk]
  | succ k ih =>
    intro m
    have : 2 ^ (k + 1) * m = 2 * (2 ^ k * m) := by rw [Nat.pow_succ, Nat.mul_comm (2 ^ k) 2, Nat.mul_assoc]
    simp only [dnk]; rw [this, dn_two, ih]
theorem dnk_zero (D k : Nat) : dnk D k 0 = 0 := by
  have := dnk_pow D k 0
  simpa using this
theorem dnk_add (D j : Nat) : ∀ k r, dnk D (j + k) r = dnk D k (dnk D j r) := by
  induction j with
  | zero => intro k r; simp [dnk]
  | succ j ih => intro k r; rw [Nat.add_right_comm]; simp only [dnk]; exact ih k _
theorem dnk_succ (D k r : Nat) : dnk D (k + 1) r = dn D (dnk D k r) := by rw [dnk_add]; rfl
theorem dn_lt {w D r : Nat} (hD : D < 2 ^ w) (hr : r < 2 ^ w) : dn D r < 2 ^ w := by
  unfold dn
  split
  · exact Nat.xor_lt_two_pow (by omega) hD
  · omega
theorem dnk_lt {w D : Nat} (hD : D < 2 ^ w) : ∀ k r, r < 2 ^ w → dnk D k r < 2 ^ w := by
  intro k
  induction k with
  | zero => intro r hr; exact hr
  | succ k ih => intro r hr; exact ih _ (dn_lt hD hr)
theorem dn_zero {w D r : Nat} (hh : 2 ^ w ≤ D) (hr : r < 2 ^ (w + 1)) (h : dn D r = 0) : r = 0 := by
  unfold dn at h
  split at h
  · exfalso
    have := xeq0 h
    rw [Nat.pow_succ] at hr
    omega
  · omega
theorem dnk_nonzero {w D : Nat} (hD : D < 2 ^ (w + 1)) (hh : 2 ^ w ≤ D) : ∀ k r, r < 2 ^ (w + 1) → dnk D k r = 0 → r = 0 := by
  intro k
  induction k with
  | zero => intro r _ h; exact h
  | succ k ih => intro r hr h; exact dn_zero hh hr (ih _ (dn_lt hD hr) h)

theorem split8 (r : Nat) : r = (256 * (r / 256)) ^^^ (r % 256) := by
  apply Nat.eq_of_testBit_eq
  intro j
  rw [Nat.testBit_xor, show (256 : Nat) = 2 ^ 8 from rfl, Nat.testBit_two_pow_mul, Nat.testBit_mod_two_pow, Nat.testBit_div_two_pow]
  by_cases h : j < 8
  · have h2 : ¬ 8 ≤ j := by omega
    simp [h, h2]
  · have h2 : j ≥ 8 := by omega
    have h3 : j - 8 + 8 = j := by omega
    simp [h, h2, h3]
theorem table (D r c : Nat) : dnk D 8 (r ^^^ c) = (r / 256) ^^^ dnk D 8 ((r % 256) ^^^ c) := by
  conv => lhs; rw [split8 r]
  rw [Nat.xor_assoc, dnk_xor]
  rw [show (256 : Nat) * (r / 256) = 2 ^ 8 * (r / 256) from rfl, dnk_pow]

theorem crc_nil (D r : Nat) : crc D r [] = r := rfl
theorem crc_cons (D r c : Nat) (cs : List Nat) : crc D r (c :: cs) = crc D (dnk D 8 (r ^^^ c)) cs := rfl
theorem crc_append (D r : Nat) (a b : List Nat) : crc D r (a ++ b) = crc D (crc D r a) b := by
  unfold crc; rw [List.foldl_append]
theorem crc_val (D : Nat) (bs : List Nat) : ∀ r, crc D r bs = dnk D (8 * bs.length) (r ^^^ val bs) := by
  induction bs with
  | nil => intro r; simp [crc, val, dnk]
  | cons c cs ih =>
    intro r
    rw [crc_cons, ih, List.length_cons, Nat.mul_add, Nat.add_comm (8 * cs.length), dnk_add]
    congr 1
    simp only [val]
    rw [← Nat.xor_assoc, dnk_xor D 8 (r ^^^ c), show (256 : Nat) * val cs = 2 ^ 8 * val cs from rfl, dnk_pow]
theorem crc_lt {w D : Nat} (hD : D < 2 ^ w) (hw : 8 ≤ w) (bs : List Nat) (hb : ∀ c ∈ bs, c < 256) : ∀ r, r < 2 ^ w → crc D r bs < 2 ^ w := by
  induction bs with
  | nil => intro r hr; exact hr
  | cons c cs ih =>
    intro r hr
    rw [crc_cons]
    refine ih (fun x hx => hb x (List.mem_cons_of_mem _ hx)) _ (dnk_lt hD _ _ (Nat.xor_lt_two_pow hr ?_))
    have h1 := hb c List.mem_cons_self
    have h2 : 2 ^ 8 ≤ 2 ^ w := Nat.pow_le_pow_right (by decide) hw
    omega

/-- Bit by bit. -/
def bits8 (D r c : Nat) : Nat → Nat
  | 0 => r
  | i + 1 => dn D (bits8 D r c i ^^^ (c / 2 ^ i % 2))
theorem mod_succ (c i : Nat) : c % 2 ^ (i + 1) = (c % 2 ^ i) ^^^ (2 ^ i * (c / 2 ^ i % 2)) := by
  apply Nat.eq_of_testBit_eq
  intro j
  rw [Nat.testBit_xor, Nat.testBit_mod_two_pow, Nat.testBit_mod_two_pow, Nat.testBit_two_pow_mul, show (2 : Nat) = 2 ^ 1 from rfl]
  rw [Nat.testBit_mod_two_pow, ← Nat.pow_mul, Nat.one_mul, Nat.testBit_div_two_pow]
  by_cases h : j < i
  · have h1 : j < i + 1 := by omega
    have h2 : ¬ i ≤ j := by omega
    simp [h, h1, h2]
  · by_cases h2 : j = i
    · subst h2; simp
    · have h1 : ¬ j < i + 1 := by omega
      have h3 : ¬ j - i < 1 := by omega
      simp [h, h1, h3]
theorem bits8_eq (D r c : Nat) : ∀ i, bits8 D r c i = dnk D i (r ^^^ (c % 2 ^ i)) := by
  intro i
  induction i with
  | zero => simp [bits8, dnk, Nat.mod_one]
  | succ i ih =>
    simp only [bits8]
    rw [ih, mod_succ, dnk_succ, ← Nat.xor_assoc, dnk_xor D i (r ^^^ _), dnk_pow]
theorem bits8_all (D r c : Nat) (hc : c < 256) : bits8 D r c 8 = dnk D 8 (r ^^^ c) := by
  rw [bits8_eq, Nat.mod_eq_of_lt (by simpa using hc)]

theorem val_append (a b : List Nat) : val (a ++ b) = val a ^^^ (2 ^ (8 * a.length) * val b) := by
  induction a with
  | nil => simp [val]
  | cons c cs ih =>
    simp only [List.cons_append, val, List.length_cons]
    rw [ih, show (256 : Nat) = 2 ^ 8 from rfl, mul_xor, ← Nat.mul_assoc, ← Nat.pow_add, Nat.xor_assoc, show 8 * (cs.length + 1) = 8 + 8 * cs.length by omega]
/-- One bit of one byte is turned about. -/
theorem val_set (bs : List Nat) : ∀ j (hj : j < bs.length) t, val (bs.set j (bs[j] ^^^ 2 ^ t)) = val bs ^^^ 2 ^ (8 * j + t) := by
  induction bs with
  | nil => intro j hj; simp at hj
  | cons c cs ih =>
    intro j hj t
    rcases j with _ | j
    · simp only [List.set_cons_zero, List.getElem_cons_zero, val, Nat.mul_zero, Nat.zero_add]
      rw [Nat.xor_assoc, Nat.xor_assoc, Nat.xor_comm (2 ^ t)]
    · simp only [List.set_cons_succ, List.getElem_cons_succ, val]
      rw [ih j (by simpa using hj), show (256 : Nat) = 2 ^ 8 from rfl, mul_xor, ← Nat.pow_add, Nat.xor_assoc, show 8 + (8 * j + t) = 8 * (j + 1) + t by omega]

/-- The sum's tail: a text's row and then the row itself. -/
theorem tail_const (D w r : Nat) (a : List Nat) (t : List Nat) (ht : val t = crc D r a ^^^ w) : crc D r (a ++ t) = dnk D (8 * t.length) w := by
  rw [crc_append, crc_val, ht, xself]

/-- Texts that differ by m at the bit 'at' on have unlike rows. -/
theorem burst {w D r at_ m : Nat} {x b : List Nat} (hD : D < 2 ^ (w + 1)) (hh : 2 ^ w ≤ D) (hl : x.length = b.length) (hat : at_ < 8 * b.length) (hm : m < 2 ^ (w + 1)) (hm0 : m ≠ 0)
    (hv : val x = val b ^^^ (2 ^ at_ * m)) : crc D r x ≠ crc D r b := by
  intro h
  rw [crc_val, crc_val, hl, hv, ← Nat.xor_assoc, dnk_xor D _ (r ^^^ val b)] at h
  have h2 : dnk D (8 * b.length) (2 ^ at_ * m) = 0 := by
    have := congrArg (fun z => dnk D (8 * b.length) (r ^^^ val b) ^^^ z) h
    simpa only [xself, Nat.xor_self] using this
  obtain ⟨q, hq⟩ : ∃ q, 8 * b.length = at_ + q := ⟨8 * b.length - at_, by omega⟩
  rw [hq, dnk_add, dnk_pow] at h2
  exact hm0 (dnk_nonzero hD hh q m hm h2)

theorem val_zip3 : ∀ (a b c : List Nat), a.length = b.length → b.length = c.length → val (List.zipWith (fun x y => x ^^^ y) (List.zipWith (fun x y => x ^^^ y) a b) c) = val a ^^^ val b ^^^ val c := by
  intro a
  induction a with
  | nil => intro b c h1 h2; cases b <;> cases c <;> simp_all [val]
  | cons x xs ih =>
    intro b c h1 h2
    rcases b with _ | ⟨y, ys⟩
    · simp at h1
    rcases c with _ | ⟨z, zs⟩
    · simp at h2
    simp only [List.zipWith_cons_cons, val]
    rw [ih ys zs (by simpa using h1) (by simpa using h2), show (256 : Nat) = 2 ^ 8 from rfl, mul_xor, mul_xor, xor4 x, xor4 (x ^^^ y)]
theorem crc_mix (D r : Nat) (a b c : List Nat) (h1 : a.length = b.length) (h2 : b.length = c.length) :
    crc D r (List.zipWith (fun x y => x ^^^ y) (List.zipWith (fun x y => x ^^^ y) a b) c) = crc D r a ^^^ crc D r b ^^^ crc D r c := by
  rw [crc_val, crc_val, crc_val, crc_val, val_zip3 a b c h1 h2]
  simp only [List.length_zipWith]
  rw [show min (min a.length b.length) c.length = a.length by omega, ← h2, ← h1, ← dnk_xor, ← dnk_xor]
  congr 1
  rw [xor4 r (val a) r (val b), Nat.xor_self, Nat.zero_xor, xlc]

end Go.Proofs.Ytcomabcmjhlabaa.Crc
