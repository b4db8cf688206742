/-
  The plain law of the check values: what is exclusive-ored into a string of bytes turns up in its CRC as a step of the register, and is never lost.
-/
namespace Go.Proofs.Ytkhobpghiachoaa.Crc

/-- One step of the register. -/
def s1 (r : Nat) : Nat := if r % 2 = 1 then (r / 2) ^^^ 33800 else r / 2

/-- n steps. -/
def it : Nat → Nat → Nat
  | 0, r => r
  | n + 1, r => it n (s1 r)

/-- The register after a byte. -/
def bs (r : Nat) (x : UInt8) : Nat := it 8 (r ^^^ x.toNat)

/-- The register after bytes. -/
def G (r : Nat) (xs : List UInt8) : Nat := xs.foldl bs r

/-- The CRC. -/
def crc (xs : List UInt8) : Nat := 65535 - G 65535 xs

/-- The exclusive or of all bytes. -/
def lrc (xs : List UInt8) : UInt8 := xs.foldl (fun a b => a ^^^ b) 0

theorem div2_xor (a b : Nat) : (a ^^^ b) / 2 = a / 2 ^^^ b / 2 := by
  apply Nat.eq_of_testBit_eq
  intro i
  simp [Nat.testBit_div_two]
theorem par_xor (a b : Nat) : (a ^^^ b) % 2 = (a + b) % 2 := by
  have h := Nat.testBit_xor (x := a) (y := b) (i := 0)
  simp only [Nat.testBit_zero] at h
  have ha := Nat.mod_two_eq_zero_or_one a
  have hb := Nat.mod_two_eq_zero_or_one b
  have hc := Nat.mod_two_eq_zero_or_one (a ^^^ b)
  rcases ha with ha | ha <;> rcases hb with hb | hb <;> rcases hc with hc | hc <;> simp [ha, hb, hc] at h <;> omega

theorem s1_xor (a b : Nat) : s1 (a ^^^ b) = s1 a ^^^ s1 b := by
  unfold s1
  have hp := par_xor a b
  rw [div2_xor]
  have ha := Nat.mod_two_eq_zero_or_one a
  have hb := Nat.mod_two_eq_zero_or_one b
  rcases ha with ha | ha <;> rcases hb with hb | hb
  · rw [if_neg (by omega), if_neg (by omega), if_neg (by omega)]
  · rw [if_pos (by omega), if_neg (by omega), if_pos (by omega)]; exact Nat.xor_assoc _ _ _
  · rw [if_pos (by omega), if_pos (by omega), if_neg (by omega)]; rw [Nat.xor_assoc, Nat.xor_assoc, Nat.xor_comm 33800]
  · rw [if_neg (by omega), if_pos (by omega), if_pos (by omega)]
    rw [Nat.xor_assoc, Nat.xor_comm 33800, Nat.xor_assoc, Nat.xor_self, Nat.xor_zero]
theorem s1_zero : s1 0 = 0 := rfl
theorem s1_lt {r : Nat} (h : r < 65536) : s1 r < 65536 := by
  unfold s1
  split
  · exact Nat.xor_lt_two_pow (n := 16) (by omega) (by omega)
  · omega
theorem s1_eq_zero {r : Nat} (h : r < 65536) (hz : s1 r = 0) : r = 0 := by
  unfold s1 at hz
  split at hz
  · have : r / 2 = 33800 := by
      have h2 : (r / 2 ^^^ 33800) ^^^ 33800 = 0 ^^^ 33800 := by rw [hz]
      rw [Nat.xor_assoc, Nat.xor_self, Nat.xor_zero, Nat.zero_xor] at h2
      exact h2
    omega
  · omega

theorem it_xor (n a b : Nat) : it n (a ^^^ b) = it n a ^^^ it n b := by
  induction n generalizing a b with
  | zero => rfl
  | succ n ih => rw [it, it, it, s1_xor, ih]
theorem it_zero (n : Nat) : it n 0 = 0 := by
  induction n with
  | zero => rfl
  | succ n ih => rw [it, s1_zero, ih]
theorem it_add (m n r : Nat) : it (m + n) r = it n (it m r) := by
  induction m generalizing r with
  | zero => rw [Nat.zero_add]; rfl
  | succ m ih => rw [Nat.succ_add, it, it, ih]
theorem it_succ (n r : Nat) : it (n + 1) r = s1 (it n r) := by rw [it_add]; rfl
theorem it_lt {n r : Nat} (h : r < 65536) : it n r < 65536 := by
  induction n generalizing r with
  | zero => exact h
  | succ n ih => exact ih (s1_lt h)
theorem it_eq_zero {n r : Nat} (h : r < 65536) (hz : it n r = 0) : r = 0 := by
  induction n generalizing r with
  | zero => exact hz
  | succ n ih => exact s1_eq_zero h (ih (s1_lt h) hz)
theorem it_inj {n a b : Nat} (ha : a < 65536) (hb : b < 65536) (h : it n a = it n b) : a = b := by
  have hx : a ^^^ b < 65536 := Nat.xor_lt_two_pow (n := 16) ha hb
  have h0 : it n (a ^^^ b) = 0 := by rw [it_xor, h, Nat.xor_self]
  have h1 := it_eq_zero hx h0
  have h2 : (a ^^^ b) ^^^ b = 0 ^^^ b := by rw [h1]
  rw [Nat.xor_assoc, Nat.xor_self, Nat.xor_zero, Nat.zero_xor] at h2
  exact h2

theorem byte_lt (x : UInt8) : x.toNat < 65536 := Nat.lt_trans x.toNat_lt (by omega)
theorem bs_lt {r : Nat} (h : r < 65536) (x : UInt8) : bs r x < 65536 := it_lt (Nat.xor_lt_two_pow (n := 16) h (byte_lt x))
theorem G_lt {r : Nat} (h : r < 65536) (xs : List UInt8) : G r xs < 65536 := by
  induction xs generalizing r with
  | nil => exact h
  | cons x xs ih => exact ih (bs_lt h x)
theorem G_nil (r : Nat) : G r [] = r := rfl
theorem G_cons (r : Nat) (x : UInt8) (xs : List UInt8) : G r (x :: xs) = G (bs r x) xs := rfl
theorem G_append (r : Nat) (xs ys : List UInt8) : G r (xs ++ ys) = G (G r xs) ys := by simp [G, List.foldl_append]
theorem crc_lt (xs : List UInt8) : crc xs < 65536 := by unfold crc; omega

/-- The table's step: what the lowest byte of the register makes of it. -/
theorem it8_high : ∀ y : Fin 256, it 8 (y.val * 256) = y.val := by decide +kernel
theorem split_lo (r : Nat) : r = (r / 256 * 256) ^^^ (r % 256) := by
  have h := Nat.two_pow_add_eq_or_of_lt (i := 8) (b := r % 256) (Nat.mod_lt _ (by decide)) (r / 256)
  have hx : (r / 256 * 256) ^^^ (r % 256) = (r / 256 * 256) ||| (r % 256) := by
    apply Nat.eq_of_testBit_eq
    intro i
    rw [Nat.testBit_xor, Nat.testBit_or]
    by_cases hi : i < 8
    · have : (r / 256 * 256).testBit i = false := by
        rw [show (256 : Nat) = 2 ^ 8 from rfl, Nat.testBit_mul_two_pow]; simp; omega
      simp [this]
    · have : (r % 256).testBit i = false := by
        rw [show (256 : Nat) = 2 ^ 8 from rfl, Nat.testBit_mod_two_pow]; simp; omega
      simp [this]
  rw [hx]
  have h256 : (2 : Nat) ^ 8 = 256 := rfl
  rw [h256, Nat.mul_comm] at h
  rw [← h]
  omega
theorem bs_table (r : Nat) (h : r < 65536) (x : UInt8) : bs r x = (r / 256) ^^^ it 8 ((r % 256) ^^^ x.toNat) := by
  unfold bs
  have e : r ^^^ x.toNat = (r / 256 * 256) ^^^ ((r % 256) ^^^ x.toNat) := by
    rw [← Nat.xor_assoc, ← split_lo]
  rw [e, it_xor]
  have := it8_high ⟨r / 256, by omega⟩
  rw [this]

/-! ### Two strings of one length -/
theorem bs_xor (r q : Nat) (x y : UInt8) : bs (r ^^^ q) (x ^^^ y) = bs r x ^^^ bs q y := by
  unfold bs
  rw [← it_xor, UInt8.toNat_xor]
  congr 1
  rw [Nat.xor_assoc, Nat.xor_assoc]
  congr 1
  rw [← Nat.xor_assoc, ← Nat.xor_assoc, Nat.xor_comm q]
theorem G_xor3 (r q t : Nat) (xs ys zs : List UInt8) (n : Nat) (hx : xs.length = n) (hy : ys.length = n) (hz : zs.length = n) (ds : List UInt8) (hd : ds.length = n)
    (h : ∀ (i : Nat) (a b c : UInt8), xs[i]? = some a → ys[i]? = some b → zs[i]? = some c → ds[i]? = some (a ^^^ b ^^^ c)) :
    G (r ^^^ q ^^^ t) ds = G r xs ^^^ G q ys ^^^ G t zs := by
  induction n generalizing r q t xs ys zs ds with
  | zero =>
    obtain rfl := List.eq_nil_of_length_eq_zero hx
    obtain rfl := List.eq_nil_of_length_eq_zero hy
    obtain rfl := List.eq_nil_of_length_eq_zero hz
    obtain rfl := List.eq_nil_of_length_eq_zero hd
    rfl
  | succ n ih =>
    match xs, ys, zs, ds, hx, hy, hz, hd with
    | x :: xs, y :: ys, z :: zs, d :: ds, hx, hy, hz, hd =>
      have h0 : d = x ^^^ y ^^^ z := by simpa using h 0 x y z rfl rfl rfl
      rw [G_cons, G_cons, G_cons, G_cons, h0, bs_xor, bs_xor]
      exact ih _ _ _ xs ys zs (by simpa using hx) (by simpa using hy) (by simpa using hz) ds (by simpa using hd) fun i a b c ha hb hc => h (i + 1) a b c ha hb hc

theorem comp_xor {a : Nat} (h : a < 65536) : 65535 - a = 65535 ^^^ a := by
  apply Nat.eq_of_testBit_eq
  intro i
  have e : 65535 - a = 2 ^ 16 - (a + 1) := by omega
  rw [e, Nat.testBit_two_pow_sub_succ h, Nat.testBit_xor]
  have h5 : (65535 : Nat).testBit i = decide (i < 16) := by
    rw [show (65535 : Nat) = 2 ^ 16 - 1 from rfl, Nat.testBit_two_pow_sub_one]
  rw [h5]
  by_cases hi : i < 16
  · simp [hi]
  · have : a.testBit i = false := Nat.testBit_lt_two_pow (Nat.lt_of_lt_of_le h (show 2 ^ 16 ≤ 2 ^ i from Nat.pow_le_pow_right (by omega) (by omega)))
    simp [hi, this]

theorem crc_xor3 (xs ys zs ds : List UInt8) (n : Nat) (hx : xs.length = n) (hy : ys.length = n) (hz : zs.length = n) (hd : ds.length = n)
    (h : ∀ (i : Nat) (a b c : UInt8), xs[i]? = some a → ys[i]? = some b → zs[i]? = some c → ds[i]? = some (a ^^^ b ^^^ c)) :
    crc ds = crc xs ^^^ crc ys ^^^ crc zs := by
  have hG := G_xor3 65535 65535 65535 xs ys zs n hx hy hz ds hd h
  have e : 65535 ^^^ 65535 ^^^ 65535 = 65535 := by decide
  rw [e] at hG
  unfold crc
  have lt := fun l : List UInt8 => G_lt (r := 65535) (by omega) l
  rw [comp_xor (lt ds), comp_xor (lt xs), comp_xor (lt ys), comp_xor (lt zs), hG]
  generalize G 65535 xs = a
  generalize G 65535 ys = b
  generalize G 65535 zs = c
  apply Nat.eq_of_testBit_eq
  intro i
  simp only [Nat.testBit_xor]
  cases (65535 : Nat).testBit i <;> cases a.testBit i <;> cases b.testBit i <;> cases c.testBit i <;> rfl

/-! ### One bit -/
/-- The bytes with one bit inverted. -/
def flip (xs : List UInt8) (n : Nat) : List UInt8 := xs.modify (n / 8) (· ^^^ UInt8.ofNat (2 ^ (n % 8)))
theorem flip_length (xs : List UInt8) (n : Nat) : (flip xs n).length = xs.length := by simp [flip]

theorem it_pow : ∀ k : Fin 17, it k.val (2 ^ k.val % 65536) = if k.val = 16 then 0 else 1 := by decide +kernel
theorem bs_flip (r : Nat) (x : UInt8) (k : Nat) (hk : k < 8) : bs r (x ^^^ UInt8.ofNat (2 ^ k)) = bs r x ^^^ it (8 - k) 1 := by
  unfold bs
  rw [UInt8.toNat_xor, ← Nat.xor_assoc, it_xor]
  congr 1
  have : ∀ k : Fin 8, it 8 (UInt8.ofNat (2 ^ k.val)).toNat = it (8 - k.val) 1 := by decide +kernel
  exact this ⟨k, hk⟩
theorem G_xor0 (r q : Nat) (xs : List UInt8) : G (r ^^^ q) xs = G r xs ^^^ it (8 * xs.length) q := by
  induction xs generalizing r q with
  | nil => rfl
  | cons x xs ih =>
    rw [G_cons, G_cons]
    have e : bs (r ^^^ q) x = bs r x ^^^ it 8 q := by
      unfold bs
      rw [← it_xor]
      congr 1
      rw [Nat.xor_assoc, Nat.xor_assoc, Nat.xor_comm q]
    rw [e, ih, ← it_add]
    simp only [List.length_cons]
    congr 2
    omega
theorem G_flip (r : Nat) (xs : List UInt8) (n : Nat) (hn : n < 8 * xs.length) : G r (flip xs n) = G r xs ^^^ it (8 * xs.length - n) 1 := by
  induction xs generalizing r n with
  | nil => simp at hn
  | cons x xs ih =>
    by_cases h8 : n < 8
    · have e : flip (x :: xs) n = (x ^^^ UInt8.ofNat (2 ^ n)) :: xs := by
        unfold flip
        rw [Nat.div_eq_of_lt h8, Nat.mod_eq_of_lt h8]
        rfl
      rw [e, G_cons, G_cons, bs_flip _ _ _ h8, G_xor0, ← it_add]
      simp only [List.length_cons]
      congr 2
      omega
    · have e : flip (x :: xs) n = x :: flip xs (n - 8) := by
        unfold flip
        rw [show n / 8 = (n - 8) / 8 + 1 from by omega, show n % 8 = (n - 8) % 8 from by omega]
        rfl
      rw [e, G_cons, G_cons, ih _ _ (by simp at hn; omega)]
      simp only [List.length_cons]
      congr 2
      omega

/-- A string followed by its CRC leaves one and the same register, and only its own CRC does. -/
theorem G_two (r : Nat) (l h : UInt8) : G r [l, h] = it 16 (r ^^^ (l.toNat + 256 * h.toNat)) := by
  have hl := l.toNat_lt
  have e1 : l.toNat + 256 * h.toNat = (h.toNat * 256) ^^^ l.toNat := by
    have := split_lo (l.toNat + 256 * h.toNat)
    rw [show (l.toNat + 256 * h.toNat) / 256 = h.toNat from by omega, show (l.toNat + 256 * h.toNat) % 256 = l.toNat from by omega] at this
    exact this
  show bs (bs r l) h = _
  unfold bs
  have e2 : h.toNat = it 8 (h.toNat * 256) := (it8_high ⟨h.toNat, h.toNat_lt⟩).symm
  rw [show it 8 (r ^^^ l.toNat) ^^^ h.toNat = it 8 (r ^^^ l.toNat) ^^^ it 8 (h.toNat * 256) from by rw [← e2], ← it_xor, ← it_add, e1]
  congr 1
  rw [Nat.xor_assoc, Nat.xor_comm l.toNat]

theorem G_code (xs : List UInt8) (l h : UInt8) (hh : l.toNat + 256 * h.toNat = crc xs) : G 65535 (xs ++ [l, h]) = it 16 65535 := by
  rw [G_append, G_two, hh]
  congr 1
  unfold crc
  have lt := G_lt (r := 65535) (by omega) xs
  rw [comp_xor lt, ← Nat.xor_assoc, Nat.xor_comm (G 65535 xs), Nat.xor_assoc, Nat.xor_self, Nat.xor_zero]

/-- If the register after the whole string is another one, the last two bytes are not the CRC. -/
theorem G_bad (xs : List UInt8) (l h : UInt8) (hne : G 65535 (xs ++ [l, h]) ≠ it 16 65535) : l.toNat + 256 * h.toNat ≠ crc xs :=
  fun he => hne (G_code xs l h he)

/-! ### A burst -/
/-- What i rounds over the bits of a pattern have inverted. -/
def burst (xs : List UInt8) (pat fr : Nat) : Nat → List UInt8
  | 0 => xs
  | i + 1 => if pat / 2 ^ i % 2 = 1 then flip (burst xs pat fr i) (fr + i) else burst xs pat fr i
theorem burst_succ (xs : List UInt8) (pat fr i : Nat) : burst xs pat fr (i + 1) = if pat / 2 ^ i % 2 = 1 then flip (burst xs pat fr i) (fr + i) else burst xs pat fr i := rfl
theorem burst_length (xs : List UInt8) (pat fr i : Nat) : (burst xs pat fr i).length = xs.length := by
  induction i with
  | zero => rfl
  | succ i ih =>
    unfold burst
    split
    · rw [flip_length, ih]
    · exact ih
theorem it_two : ∀ k : Fin 16, it k.val (2 ^ k.val) = 1 := by decide +kernel
theorem low_succ (p i : Nat) : p % 2 ^ (i + 1) = (p % 2 ^ i) ^^^ (if p / 2 ^ i % 2 = 1 then 2 ^ i else 0) := by
  apply Nat.eq_of_testBit_eq
  intro j
  rw [Nat.testBit_xor, Nat.testBit_mod_two_pow, Nat.testBit_mod_two_pow]
  have hb : p.testBit i = decide (p / 2 ^ i % 2 = 1) := Nat.testBit_eq_decide_div_mod_eq
  by_cases hij : j = i
  · subst hij
    by_cases hp : p / 2 ^ j % 2 = 1
    · rw [if_pos hp, Nat.testBit_two_pow_self, hb]; simp [hp]
    · rw [if_neg hp, hb]; simp [hp]
  · have h0 : (if p / 2 ^ i % 2 = 1 then 2 ^ i else 0).testBit j = false := by
      split
      · exact Nat.testBit_two_pow_of_ne (fun h => hij h.symm)
      · simp
    rw [h0]
    have : decide (j < i + 1) = decide (j < i) := by rw [decide_eq_decide]; omega
    rw [this]; simp
theorem G_burst (r : Nat) (xs : List UInt8) (pat fr i : Nat) (hi : i ≤ 16) (hf : fr + 16 ≤ 8 * xs.length) :
    G r (burst xs pat fr i) = G r xs ^^^ it (8 * xs.length - fr) (pat % 2 ^ i) := by
  induction i with
  | zero => rw [Nat.pow_zero, Nat.mod_one, it_zero, Nat.xor_zero]; rfl
  | succ i ih =>
    have ih := ih (by omega)
    rw [low_succ, it_xor, ← Nat.xor_assoc, ← ih, burst_succ]
    by_cases hp : pat / 2 ^ i % 2 = 1
    · rw [if_pos hp, if_pos hp, G_flip _ _ _ (by rw [burst_length]; omega), burst_length]
      congr 1
      have e : 8 * xs.length - fr = i + (8 * xs.length - (fr + i)) := by omega
      rw [e, it_add, it_two ⟨i, by omega⟩]
    · rw [if_neg hp, if_neg hp, it_zero, Nat.xor_zero]
theorem burst_bad (xs : List UInt8) (pat fr : Nat) (hp : pat < 65536) (h0 : pat ≠ 0) (hf : fr + 16 ≤ 8 * xs.length) (hx : G 65535 xs = it 16 65535) :
    G 65535 (burst xs pat fr 16) ≠ it 16 65535 := by
  rw [G_burst _ _ _ _ _ (Nat.le_refl _) hf, hx, show pat % 2 ^ 16 = pat from Nat.mod_eq_of_lt hp]
  intro h
  have h2 : it 16 65535 ^^^ (it 16 65535 ^^^ it (8 * xs.length - fr) pat) = it 16 65535 ^^^ it 16 65535 := by rw [h]
  rw [← Nat.xor_assoc, Nat.xor_self, Nat.zero_xor] at h2
  exact h0 (it_eq_zero hp h2)
theorem flip_bad (xs : List UInt8) (n : Nat) (hn : n < 8 * xs.length) (hx : G 65535 xs = it 16 65535) : G 65535 (flip xs n) ≠ it 16 65535 := by
  rw [G_flip _ _ _ hn, hx]
  intro h
  have h2 : it 16 65535 ^^^ (it 16 65535 ^^^ it (8 * xs.length - n) 1) = it 16 65535 ^^^ it 16 65535 := by rw [h]
  rw [← Nat.xor_assoc, Nat.xor_self, Nat.zero_xor] at h2
  exact absurd (it_eq_zero (by omega) h2) (by omega)

/-! ### The exclusive or of all bytes -/
theorem lrc_from (a : UInt8) (xs : List UInt8) : xs.foldl (fun a b => a ^^^ b) a = a ^^^ lrc xs := by
  unfold lrc
  induction xs generalizing a with
  | nil => simp
  | cons x xs ih =>
    rw [List.foldl_cons, List.foldl_cons, ih, ih (0 ^^^ x), UInt8.zero_xor, UInt8.xor_assoc]
theorem lrc_nil : lrc [] = 0 := rfl
theorem lrc_cons (x : UInt8) (xs : List UInt8) : lrc (x :: xs) = x ^^^ lrc xs := by
  unfold lrc
  rw [List.foldl_cons, lrc_from, UInt8.zero_xor]; rfl
theorem lrc_append (xs ys : List UInt8) : lrc (xs ++ ys) = lrc xs ^^^ lrc ys := by
  unfold lrc
  rw [List.foldl_append, lrc_from]; rfl
theorem lrc_snoc (xs : List UInt8) (y : UInt8) : lrc (xs ++ [y]) = lrc xs ^^^ y := by
  rw [lrc_append, lrc_cons, lrc_nil, UInt8.xor_zero]
theorem lrc_flip (xs : List UInt8) (n : Nat) (hn : n < 8 * xs.length) : lrc (flip xs n) = lrc xs ^^^ UInt8.ofNat (2 ^ (n % 8)) := by
  induction xs generalizing n with
  | nil => simp at hn
  | cons x xs ih =>
    by_cases h8 : n < 8
    · have e : flip (x :: xs) n = (x ^^^ UInt8.ofNat (2 ^ n)) :: xs := by
        unfold flip
        rw [Nat.div_eq_of_lt h8, Nat.mod_eq_of_lt h8]
        rfl
      rw [e, lrc_cons, lrc_cons, Nat.mod_eq_of_lt h8, UInt8.xor_assoc, UInt8.xor_comm (UInt8.ofNat _), UInt8.xor_assoc]
    · have e : flip (x :: xs) n = x :: flip xs (n - 8) := by
        unfold flip
        rw [show n / 8 = (n - 8) / 8 + 1 from by omega, show n % 8 = (n - 8) % 8 from by omega]
        rfl
      rw [e, lrc_cons, lrc_cons, ih _ (by simp at hn; omega), UInt8.xor_assoc, show (n - 8) % 8 = n % 8 from by omega]
theorem pow_ne_zero : ∀ k : Fin 8, UInt8.ofNat (2 ^ k.val) ≠ 0 := by decide +kernel
theorem lrc_flip_bad (xs : List UInt8) (n : Nat) (hn : n < 8 * xs.length) (hx : lrc xs = 0) : lrc (flip xs n) ≠ 0 := by
  rw [lrc_flip _ _ hn, hx, UInt8.zero_xor]
  exact pow_ne_zero ⟨n % 8, Nat.mod_lt _ (by omega)⟩
/-- The last byte is the LRC of the others exactly if the exclusive or of all is 0. -/
theorem lrc_code (xs : List UInt8) (y : UInt8) : lrc (xs ++ [y]) = 0 ↔ y = lrc xs := by
  rw [lrc_snoc]
  constructor
  · intro h
    have h2 : lrc xs ^^^ (lrc xs ^^^ y) = lrc xs ^^^ 0 := by rw [h]
    rw [← UInt8.xor_assoc, UInt8.xor_self, UInt8.zero_xor, UInt8.xor_zero] at h2
    exact h2
  · intro h
    rw [h, UInt8.xor_self]
theorem lrc_xor3 (xs ys zs ds : List UInt8) (n : Nat) (hx : xs.length = n) (hy : ys.length = n) (hz : zs.length = n) (hd : ds.length = n)
    (h : ∀ (i : Nat) (a b c : UInt8), xs[i]? = some a → ys[i]? = some b → zs[i]? = some c → ds[i]? = some (a ^^^ b ^^^ c)) :
    lrc ds = lrc xs ^^^ lrc ys ^^^ lrc zs := by
  induction n generalizing xs ys zs ds with
  | zero =>
    obtain rfl := List.eq_nil_of_length_eq_zero hx
    obtain rfl := List.eq_nil_of_length_eq_zero hy
    obtain rfl := List.eq_nil_of_length_eq_zero hz
    obtain rfl := List.eq_nil_of_length_eq_zero hd
    rfl
  | succ n ih =>
    match xs, ys, zs, ds, hx, hy, hz, hd with
    | x :: xs, y :: ys, z :: zs, d :: ds, hx, hy, hz, hd =>
      have h0 : d = x ^^^ y ^^^ z := by simpa using h 0 x y z rfl rfl rfl
      have ih := ih xs ys zs ds (by simpa using hx) (by simpa using hy) (by simpa using hz) (by simpa using hd) fun i a b c ha hb hc => h (i + 1) a b c ha hb hc
      rw [lrc_cons, lrc_cons, lrc_cons, lrc_cons, h0, ih]
      generalize lrc xs = a
      generalize lrc ys = b
      generalize lrc zs = c
      ac_rfl
end Go.Proofs.Ytkhobpghiachoaa.Crc
