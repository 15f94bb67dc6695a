/-
  Arrays of which every copy is as it must be, in plain Lean: what writing, losing and turning leave of that, and what is read then. Conditions: the numbers are within the array.
-/
import Derived.Test.YtgjijcgkmofaaaaGreatDoorK16
import Derived.Shelf.LaysM
import Derived.Shelf.Strconv.Itoa3
import Derived.Shelf.Bits.Mul64
namespace Go.Proofs.YtgjijcgkmofaaaaGreatDoor
set_option linter.unusedSimpArgs false
set_option linter.unusedVariables false
open Go.RowKit

theorem enc_pad (no : Int) {s : ByteArray} (h : s.size ≤ 24) : encodeS no (padS s) = encodeS no s := by
  have hp := padS_size h
  have e : rawS no (padS s) = rawS no s := by
    unfold rawS
    rw [hp, Nat.sub_self, List.replicate_zero, List.append_nil]
    unfold padS
    rw [lst_bs]
  unfold encodeS
  rw [hp, e, if_neg (show ¬ 24 < 24 by decide), if_neg (show ¬ 24 < s.size by omega)]
theorem xorS_comm (s t : ByteArray) : xorS s t = xorS t s := by
  unfold xorS
  congr 1
  rw [List.zipWith_comm]
  congr 1
  funext a b
  exact UInt8.xor_comm _ _
theorem xor_back (l k : List UInt8) (h : l.length = k.length) : List.zipWith (fun a b => a ^^^ b) (List.zipWith (fun a b => a ^^^ b) l k) k = l := by
  induction l generalizing k with
  | nil => rfl
  | cons a l ih =>
    cases k with
    | nil => simp at h
    | cons b k =>
      simp only [List.zipWith_cons_cons]
      rw [ih k (by simpa using h)]
      congr 1
      rw [UInt8.xor_assoc, UInt8.xor_self, UInt8.xor_zero]
theorem xorS_back {s t : ByteArray} (h : s.size = t.size) : xorS (xorS s t) t = s := by
  unfold xorS
  rw [lst_bs, xor_back _ _ (by rw [length_lst, length_lst]; exact h), bs_lst]
/-- A sector that is as it was written. -/
def Sound (d : Dev) (n : Nat) (no : Int) (s : ByteArray) : Prop := d.sec.getD n .empty = (encodeS no s).1 ∧ d.lost.getD n false = false
theorem Sound.read {d : Dev} {n : Nat} {no : Int} {s : ByteArray} (h : Sound d n no s) (ht : touchCode d n = 0) (h0 : 0 ≤ no) (h1 : no ≤ 65535) (hs : s.size = 24) : readS d n no = (s, 0) := by
  rw [read_eq no ht, show ((n : Int)).toNat = n from rfl, h.2, if_neg (by decide), h.1, decode_encode _ _ _ h0 h1 (by omega), if_pos rfl, padS_full hs]
theorem Sound.write {d : Dev} {n : Nat} {no : Int} {s : ByteArray} (ht : touchCode d n = 0) (h0 : 0 ≤ no) (h1 : no ≤ 65535) (hs : s.size ≤ 24) : Sound (writeS d n no s).1 n no (padS s) := by
  obtain ⟨hm, hn, hl⟩ := touch_zero ht
  obtain ⟨m1, m2, m3, m4⟩ := devMay_len hm
  rw [writeS_ok ht h0 h1 hs]
  refine ⟨?_, ?_⟩
  · rw [enc_pad no hs]
    exact getD_set_self _ _ _ _ (by simpa using hl)
  · exact getD_set_self _ _ _ _ (by rw [m3]; simpa using hl)
theorem Sound.write_other {d : Dev} {n k : Nat} {no no' : Int} {s t : ByteArray} (h : Sound d k no' t) (ht : touchCode d n = 0) (h0 : 0 ≤ no) (h1 : no ≤ 65535) (hs : s.size ≤ 24) (hne : n ≠ k) : Sound (writeS d n no s).1 k no' t := by
  rw [writeS_ok ht h0 h1 hs]
  refine ⟨?_, ?_⟩
  · exact (getD_set_ne _ _ _ _ _ (by simpa using hne)).trans h.1
  · exact (getD_set_ne _ _ _ _ _ (by simpa using hne)).trans h.2
/-- The payload of a sector. -/
def pl (all : List ByteArray) (n : Nat) : ByteArray := all.getD n .empty
/-- The parity of two sectors. -/
def pp (all : List ByteArray) (n : Nat) : ByteArray := xorS (pl all (2 * n)) (pl all (2 * n + 1))
/-- An array of which every copy is as it must be. -/
structure Full (a : List Dev) (m : Nat) (all : List ByteArray) : Prop where
  good : Good a m
  len : all.length = m
  size : ∀ n : Nat, n < m → (pl all n).size = 24
  s0 : ∀ n : Nat, n < m → Sound (dv a 0) n n (pl all n)
  s1 : ∀ n : Nat, n < m → Sound (dv a 1) n n (pl all n)
  s2 : ∀ n : Nat, n < m / 2 → Sound (dv a 2) n (512 + n) (pp all n)
theorem pl_set_self {all : List ByteArray} {n : Nat} (h : n < all.length) (s : ByteArray) : pl (all.set n s) n = s := getD_set_self _ _ _ _ h
theorem pl_set_ne (all : List ByteArray) {n k : Nat} (h : n ≠ k) (s : ByteArray) : pl (all.set n s) k = pl all k := getD_set_ne _ _ _ _ _ h
theorem pp_size {all : List ByteArray} {m n : Nat} (h : ∀ n : Nat, n < m → (pl all n).size = 24) (hn : n < m / 2) : (pp all n).size = 24 := by
  unfold pp
  rw [xorS_size (by rw [h _ (by omega), h _ (by omega)]), h _ (by omega)]
theorem pp_set_other (all : List ByteArray) {n k : Nat} (h : n / 2 ≠ k) (s : ByteArray) : pp (all.set n s) k = pp all k := by
  unfold pp
  rw [pl_set_ne _ (by omega), pl_set_ne _ (by omega)]
/-- The other one of the two, as a Nat. -/
def pt (n : Nat) : Nat := if n % 2 = 0 then n + 1 else n - 1
theorem partner_pt (n : Nat) : partner n = (pt n : Int) := by
  unfold partner pt
  by_cases h : n % 2 = 0
  · rw [if_pos h, if_pos (by omega)]; omega
  · rw [if_neg h, if_neg (by omega)]; omega
theorem pt_facts (n : Nat) : pt n ≠ n ∧ pt n / 2 = n / 2 ∧ pt (pt n) = n := by
  unfold pt
  by_cases h : n % 2 = 0
  · rw [if_pos h, if_neg (by omega)]; omega
  · rw [if_neg h, if_pos (by omega)]; omega
theorem pt_lt {n m : Nat} (h : n < m) (h2 : m % 2 = 0) : pt n < m := by
  unfold pt
  split <;> omega
theorem pp_eq (all : List ByteArray) (n : Nat) : pp all (n / 2) = xorS (pl all n) (pl all (pt n)) := by
  unfold pp pt
  by_cases h : n % 2 = 0
  · rw [if_pos h, show 2 * (n / 2) = n by omega]
  · rw [if_neg h, show 2 * (n / 2) = n - 1 by omega, show n - 1 + 1 = n by omega, xorS_comm]
/-- An array of which no copy tells anything wrong. -/
structure Part (a : List Dev) (m : Nat) (all : List ByteArray) : Prop where
  good : Good a m
  len : all.length = m
  size : ∀ n : Nat, n < m → (pl all n).size = 24
  r0 : ∀ n : Nat, n < m → (readS (dv a 0) n n).2 = 0 → (readS (dv a 0) n n).1 = pl all n
  r1 : ∀ n : Nat, n < m → (readS (dv a 1) n n).2 = 0 → (readS (dv a 1) n n).1 = pl all n
  r2 : ∀ n : Nat, n < m / 2 → (readS (dv a 2) n (512 + n : Int)).2 = 0 → (readS (dv a 2) n (512 + n : Int)).1 = pp all n
theorem Good.touch2 {a : List Dev} {m : Nat} (h : Good a m) {n : Nat} (h1 : n < m / 2) : touchCode (dv a 2) n = 0 := touch_iff.2 ⟨h.m2, by omega, by rw [h.l2]; omega⟩
theorem Full.reads {a : List Dev} {m : Nat} {all : List ByteArray} (h : Full a m all) (h64 : m ≤ 64) :
    (∀ n : Nat, n < m → readS (dv a 0) n n = (pl all n, 0)) ∧ (∀ n : Nat, n < m → readS (dv a 1) n n = (pl all n, 0)) ∧ ∀ n : Nat, n < m / 2 → readS (dv a 2) n (512 + n : Int) = (pp all n, 0) :=
  ⟨fun n hn => (h.s0 n hn).read (h.good.touch (by omega) (by omega)).1 (by omega) (by omega) (h.size n hn), fun n hn => (h.s1 n hn).read (h.good.touch (by omega) (by omega)).2 (by omega) (by omega) (h.size n hn),
    fun n hn => (h.s2 n hn).read (h.good.touch2 hn) (by omega) (by omega) (pp_size h.size hn)⟩
theorem Full.part {a : List Dev} {m : Nat} {all : List ByteArray} (h : Full a m all) (h64 : m ≤ 64) : Part a m all := by
  obtain ⟨r0, r1, r2⟩ := h.reads h64
  exact ⟨h.good, h.len, h.size, fun n hn _ => by rw [r0 n hn], fun n hn _ => by rw [r1 n hn], fun n hn _ => by rw [r2 n hn]⟩
theorem Good.arr {a : List Dev} {m : Nat} (h : Good a m) (h16 : 16 ≤ m) (h2 : m % 2 = 0) {n : Nat} (hn : n < m) : arrTouch a n = 0 := arrTouch_zero.2 ⟨h.may h16 h2, by omega, by rw [h.l0]; omega⟩
theorem Part.mirror {a : List Dev} {m : Nat} {all : List ByteArray} (h : Part a m all) {n : Nat} (hn : n < m) :
    ((readS (dv a 0) n n).2 = 0 ∧ mirrorS a n = (pl all n, 1)) ∨ ((readS (dv a 0) n n).2 ≠ 0 ∧ (readS (dv a 1) n n).2 = 0 ∧ mirrorS a n = (pl all n, 2)) ∨ ((readS (dv a 0) n n).2 ≠ 0 ∧ (readS (dv a 1) n n).2 ≠ 0 ∧ mirrorS a n = (.empty, 0)) := by
  unfold mirrorS
  by_cases h0 : (readS (dv a 0) n n).2 = 0
  · left; rw [if_pos h0, h.r0 n hn h0]; exact ⟨h0, rfl⟩
  · right
    rw [if_neg h0]
    by_cases h1 : (readS (dv a 1) n n).2 = 0
    · left; rw [if_pos h1, h.r1 n hn h1]; exact ⟨h0, h1, rfl⟩
    · right; rw [if_neg h1]; exact ⟨h0, h1, rfl⟩
/-- What reading a sector answers. -/
theorem Part.read {a : List Dev} {m : Nat} {all : List ByteArray} (h : Part a m all) (h16 : 16 ≤ m) (h64 : m ≤ 64) (h2 : m % 2 = 0) {n : Nat} (hn : n < m) :
    ((readS (dv a 0) n n).2 = 0 ∧ arrReadS a n = (pl all n, 1, 0)) ∨ ((readS (dv a 0) n n).2 ≠ 0 ∧ (readS (dv a 1) n n).2 = 0 ∧ arrReadS a n = (pl all n, 2, 0)) ∨
    ((readS (dv a 0) n n).2 ≠ 0 ∧ (readS (dv a 1) n n).2 ≠ 0 ∧ (((mirrorS a (pt n : Int)).2 = 0 ∨ (readS (dv a 2) (n / 2 : Nat) (512 + (n / 2 : Nat) : Int)).2 ≠ 0) ∧ arrReadS a n = (.empty, 0, 11) ∨
      ((mirrorS a (pt n : Int)).2 ≠ 0 ∧ (readS (dv a 2) (n / 2 : Nat) (512 + (n / 2 : Nat) : Int)).2 = 0) ∧ arrReadS a n = (pl all n, 3, 0))) := by
  have ht := h.good.arr h16 h2 hn
  have hq : ((n : Int) / 2) = ((n / 2 : Nat) : Int) := by omega
  unfold arrReadS
  rw [if_neg (by simpa using ht)]
  rcases h.mirror hn with ⟨a0, e⟩ | ⟨a0, a1, e⟩ | ⟨a0, a1, e⟩
  · left; rw [e, if_pos (by show (1 : Int) ≠ 0; decide)]; exact ⟨a0, rfl⟩
  · right; left; rw [e, if_pos (by show (2 : Int) ≠ 0; decide)]; exact ⟨a0, a1, rfl⟩
  · right; right
    refine ⟨a0, a1, ?_⟩
    rw [e, if_neg (by show ¬ (0 : Int) ≠ 0; decide), partner_pt]
    unfold parS
    rw [hq]
    by_cases hc : (mirrorS a (pt n : Int)).2 = 0 ∨ (readS (dv a 2) ((n / 2 : Nat) : Int) (512 + ((n / 2 : Nat) : Int))).2 ≠ 0
    · left; rw [if_pos hc]; exact ⟨hc, rfl⟩
    · right
      have hc' : (mirrorS a (pt n : Int)).2 ≠ 0 ∧ (readS (dv a 2) ((n / 2 : Nat) : Int) (512 + ((n / 2 : Nat) : Int))).2 = 0 := by
        constructor
        · exact fun h => hc (.inl h)
        · exact Decidable.byContradiction fun h => hc (.inr h)
      rw [if_neg hc]
      refine ⟨hc', ?_⟩
      have hp := pt_lt hn h2
      have hpn := h.size n hn
      have hpp := h.size (pt n) hp
      have e2 : (mirrorS a (pt n : Int)).1 = pl all (pt n) := by
        rcases h.mirror hp with ⟨_, e⟩ | ⟨_, _, e⟩ | ⟨_, _, e⟩
        · rw [e]
        · rw [e]
        · rw [e] at hc'; exact absurd rfl hc'.1
      rw [e2, h.r2 (n / 2) (by omega) hc'.2, pp_eq, xorS_back (by rw [hpn, hpp])]
theorem Full.read {a : List Dev} {m : Nat} {all : List ByteArray} (h : Full a m all) (h16 : 16 ≤ m) (h64 : m ≤ 64) (h2 : m % 2 = 0) {n : Nat} (hn : n < m) : arrReadS a n = (pl all n, 1, 0) := by
  rcases (h.part h64).read h16 h64 h2 hn with ⟨_, e⟩ | ⟨e, _⟩ | ⟨e, _⟩
  · exact e
  · rw [(h.reads h64).1 n hn] at e; exact absurd rfl e
  · rw [(h.reads h64).1 n hn] at e; exact absurd rfl e
/-- A write into such an array. -/
theorem Full.write {a : List Dev} {m : Nat} {all : List ByteArray} (h : Full a m all) (h16 : 16 ≤ m) (h64 : m ≤ 64) (h2 : m % 2 = 0) {n : Nat} (hn : n < m) {s : ByteArray} (hs : s.size ≤ 24) :
    ∃ b, arrWriteS a n s = (b, 0) ∧ Full b m (all.set n (padS s)) := by
  obtain ⟨e1, hg⟩ := write_step h.good h16 h64 h2 (n := n) (by omega) (by omega) hs
  refine ⟨_, e1, ?_⟩
  have ht := h.good.arr h16 h2 hn
  have hp := pt_lt hn h2
  have hpf := pt_facts n
  have hr := h.read h16 h64 h2 hp
  have hpp := h.size (pt n) hp
  have hq : ((n : Int) / 2) = ((n / 2 : Nat) : Int) := by omega
  have hsv : savedS a n = a := by
    unfold savedS
    rw [partner_pt, hr, if_neg (by rintro ⟨_, h⟩; exact absurd (show (1 : Int) = 3 from h) (by decide))]
  have hw : arrWrite3 a n s = (bothS a n s).set 2 (writeS (dv a 2) ((n / 2 : Nat) : Int) (512 + ((n / 2 : Nat) : Int)) (xorS (padS s) (pl all (pt n)))).1 := by
    rw [written_eq ht hs]
    unfold writtenS
    rw [hsv, partner_pt, hr, if_pos rfl, (bothS_dv h.good.len n s).2.2.1, hq]
  obtain ⟨b0, b1, b2, b3⟩ := bothS_dv h.good.len (n : Int) s
  obtain ⟨t0, t1⟩ := h.good.touch (n := n) (by omega) (by omega)
  have t2 := h.good.touch2 (n := n / 2) (by omega)
  have hx : (xorS (padS s) (pl all (pt n))).size = 24 := by
    have := padS_size hs
    rw [xorS_size (by omega), this]
  have e2 : dv (arrWrite3 a n s) 2 = (writeS (dv a 2) ((n / 2 : Nat) : Int) (512 + ((n / 2 : Nat) : Int)) (xorS (padS s) (pl all (pt n)))).1 := by
    rw [hw, dv_set_self (by omega)]
  have e0 : dv (arrWrite3 a n s) 0 = (writeS (dv a 0) n n s).1 := by rw [hw, dv_set_ne _ (by decide), b0]
  have e1' : dv (arrWrite3 a n s) 1 = (writeS (dv a 1) n n s).1 := by rw [hw, dv_set_ne _ (by decide), b1]
  have hln := h.len
  refine ⟨hg, by rw [List.length_set]; exact h.len, fun k hk => ?_, fun k hk => ?_, fun k hk => ?_, fun k hk => ?_⟩
  · by_cases he : n = k
    · subst he; rw [pl_set_self (by omega)]; exact padS_size hs
    · rw [pl_set_ne _ he]; exact h.size k hk
  · rw [e0]
    by_cases he : n = k
    · subst he; rw [pl_set_self (by omega)]; exact Sound.write t0 (by omega) (by omega) hs
    · rw [pl_set_ne _ he]; exact (h.s0 k hk).write_other t0 (by omega) (by omega) hs he
  · rw [e1']
    by_cases he : n = k
    · subst he; rw [pl_set_self (by omega)]; exact Sound.write t1 (by omega) (by omega) hs
    · rw [pl_set_ne _ he]; exact (h.s1 k hk).write_other t1 (by omega) (by omega) hs he
  · rw [e2]
    by_cases he : n / 2 = k
    · subst he
      have := Sound.write (s := xorS (padS s) (pl all (pt n))) (no := 512 + ((n / 2 : Nat) : Int)) t2 (by omega) (by omega) (by omega)
      rw [padS_full hx] at this
      rw [pp_eq, pl_set_self (by omega), pl_set_ne _ (fun h => hpf.1 h.symm)]
      exact this
    · rw [pp_set_other _ he]; exact (h.s2 k hk).write_other t2 (by omega) (by omega) (by omega) he
/-- A new array. -/
theorem full_new {m : Nat} (h16 : 16 ≤ m) (h64 : m ≤ 64) (h2 : m % 2 = 0) : Full [freshDev m 0, freshDev m 0, freshDev (m / 2) 512] m (List.replicate m (bs (List.replicate 24 0))) := by
  have hpl : ∀ n : Nat, n < m → pl (List.replicate m (bs (List.replicate 24 0))) n = bs (List.replicate 24 0) := by
    intro n hn
    unfold pl
    rw [List.getD_eq_getElem?_getD, List.getElem?_replicate, if_pos hn]; rfl
  have hpe : padS .empty = bs (List.replicate 24 0) := rfl
  have hxe : xorS (bs (List.replicate 24 0)) (bs (List.replicate 24 0)) = bs (List.replicate 24 0) := by decide
  have hsnd : ∀ (mm n : Nat) (f : Int), n < mm → Sound (freshDev mm f) n (f + n) (bs (List.replicate 24 0)) := by
    intro mm n f hn
    refine ⟨?_, fresh_lost _ _ _⟩
    rw [fresh_sec mm f n hn, ← hpe, enc_pad _ (by decide)]
  refine ⟨⟨rfl, fresh_may m 0 (by omega) (by omega) (by omega) (by omega), fresh_may m 0 (by omega) (by omega) (by omega) (by omega), fresh_may (m / 2) 512 (by omega) (by omega) (by omega) (by omega), fresh_len _ _, fresh_len _ _, fresh_len _ _⟩, by simp, fun n hn => ?_, fun n hn => ?_, fun n hn => ?_, fun n hn => ?_⟩
  · rw [hpl n hn, size_bs]; rfl
  · rw [hpl n hn]; have := hsnd m n 0 hn; rw [Int.zero_add] at this; exact this
  · rw [hpl n hn]; have := hsnd m n 0 hn; rw [Int.zero_add] at this; exact this
  · have : pp (List.replicate m (bs (List.replicate 24 0))) n = bs (List.replicate 24 0) := by
      unfold pp; rw [hpl _ (by omega), hpl _ (by omega), hxe]
    rw [this]; exact hsnd (m / 2) n 512 hn
end Go.Proofs.YtgjijcgkmofaaaaGreatDoor

/-
  What arrays tell whose sectors were lost, in plain Lean: the laws ArraysParity, WritesStay and StreamsBack. Conditions: the numbers are within the array.
-/
namespace Go.Proofs.YtgjijcgkmofaaaaGreatDoor
set_option linter.unusedSimpArgs false
set_option linter.unusedVariables false
open Go.RowKit

/-- A sector of a device is lost. -/
def loseA (a : List Dev) (j n : Nat) : List Dev := a.set j (loseS (dv a j) n)
theorem loseA_dv {a : List Dev} {j n : Nat} (hj : j < a.length) (i : Nat) : dv (loseA a j n) i = if i = j then loseS (dv a j) n else dv a i := by
  unfold loseA
  by_cases h : i = j
  · subst h; rw [if_pos rfl, dv_set_self hj]
  · rw [if_neg h, dv_set_ne _ (fun e => h e.symm)]
theorem loseA_len (a : List Dev) (j n : Nat) : (loseA a j n).length = a.length := by unfold loseA; simp
theorem loseA_read {a : List Dev} {j n : Nat} (hj : j < a.length) (ht : touchCode (dv a j) n = 0) (i p : Nat) (no : Int) : readS (dv (loseA a j n) i) p no = if i = j ∧ p = n then (.empty, 11) else readS (dv a i) p no := by
  rw [loseA_dv hj]
  by_cases h : i = j
  · subst h
    rw [if_pos rfl]
    by_cases hp : p = n
    · subst hp; rw [if_pos ⟨rfl, rfl⟩, read_lose ht]
    · rw [if_neg (fun e => hp e.2), read_lose_other ht p no (by omega) (by omega)]
  · rw [if_neg h, if_neg (fun e => h e.1)]
theorem Good.dev {a : List Dev} {m : Nat} (h : Good a m) {j : Nat} {d : Dev} (hj : j < 3) (hd : devMay d = true) (hl : d.sec.length = (dv a j).sec.length) : Good (a.set j d) m := by
  have h3 := h.len
  have e : ∀ i, dv (a.set j d) i = if i = j then d else dv a i := by
    intro i
    by_cases hi : i = j
    · subst hi; rw [if_pos rfl, dv_set_self (by omega)]
    · rw [if_neg hi, dv_set_ne _ (fun e => hi e.symm)]
  refine ⟨by rw [List.length_set]; exact h3, ?_, ?_, ?_, ?_, ?_, ?_⟩
  · rw [e]; split; exact hd; exact h.m0
  · rw [e]; split; exact hd; exact h.m1
  · rw [e]; split; exact hd; exact h.m2
  · rw [e]; split
    · rename_i hh; rw [hl, ← hh]; exact h.l0
    · exact h.l0
  · rw [e]; split
    · rename_i hh; rw [hl, ← hh]; exact h.l1
    · exact h.l1
  · rw [e]; split
    · rename_i hh; rw [hl, ← hh]; exact h.l2
    · exact h.l2
theorem Good.lose {a : List Dev} {m : Nat} (h : Good a m) {j n : Nat} (hj : j < 3) (ht : touchCode (dv a j) n = 0) : Good (loseA a j n) m := h.dev hj (lose_may ht) (lose_len ht)
theorem Part.lose {a : List Dev} {m : Nat} {all : List ByteArray} (h : Part a m all) {j n : Nat} (hj : j < 3) (ht : touchCode (dv a j) n = 0) : Part (loseA a j n) m all := by
  have h3 := h.good.len
  refine ⟨h.good.lose hj ht, h.len, h.size, fun p hp => ?_, fun p hp => ?_, fun p hp => ?_⟩
  · rw [loseA_read (by omega) ht]
    split
    · intro e; exact absurd e (by show ¬ (11 : Int) = 0; decide)
    · exact h.r0 p hp
  · rw [loseA_read (by omega) ht]
    split
    · intro e; exact absurd e (by show ¬ (11 : Int) = 0; decide)
    · exact h.r1 p hp
  · rw [loseA_read (by omega) ht]
    split
    · intro e; exact absurd e (by show ¬ (11 : Int) = 0; decide)
    · exact h.r2 p hp
theorem e11 : ¬ (11 : Int) = 0 := by decide
/-- Both mirrors lost a sector. -/
def lostBoth (a : List Dev) (k : Nat) : List Dev := loseA (loseA a 0 k) 1 k
theorem Full.lostBoth {a : List Dev} {m : Nat} {all : List ByteArray} (h : Full a m all) (h64 : m ≤ 64) {k : Nat} (hk : k < m) :
    touchCode (dv a 0) k = 0 ∧ touchCode (dv (loseA a 0 k) 1) k = 0 ∧ Part (lostBoth a k) m all ∧
      (∀ i p : Nat, i < 2 → p < m → readS (dv (lostBoth a k) i) p p = if p = k then (.empty, 11) else (pl all p, 0)) ∧ ∀ p : Nat, p < m / 2 → readS (dv (lostBoth a k) 2) p (512 + p : Int) = (pp all p, 0) := by
  have h3 := h.good.len
  obtain ⟨t0, t1⟩ := h.good.touch (n := k) (by omega) (by omega)
  have t1' : touchCode (dv (loseA a 0 k) 1) k = 0 := by rw [loseA_dv (by omega), if_neg (by decide)]; exact t1
  obtain ⟨r0, r1, r2⟩ := h.reads h64
  refine ⟨t0, t1', ((h.part h64).lose (by decide) t0).lose (by decide) t1', fun i p hi hp => ?_, fun p hp => ?_⟩
  · unfold Go.Proofs.YtgjijcgkmofaaaaGreatDoor.lostBoth
    rw [loseA_read (by rw [loseA_len]; omega) t1', loseA_read (by omega) t0]
    by_cases hpk : p = k
    · subst hpk
      rw [if_pos rfl]
      match i, hi with
      | 0, _ => simp
      | 1, _ => simp
    · rw [if_neg (fun e => hpk e.2), if_neg (fun e => hpk e.2), if_neg hpk]
      match i, hi with
      | 0, _ => exact r0 p hp
      | 1, _ => exact r1 p hp
  · unfold Go.Proofs.YtgjijcgkmofaaaaGreatDoor.lostBoth
    rw [loseA_read (by rw [loseA_len]; omega) t1', loseA_read (by omega) t0, if_neg (by simp), if_neg (by simp)]
    exact r2 p hp
theorem Part.mirror_ok {a : List Dev} {m : Nat} {all : List ByteArray} (h : Part a m all) {n : Nat} (hn : n < m) (hr : (readS (dv a 0) n n).2 = 0 ∨ (readS (dv a 1) n n).2 = 0) : (mirrorS a n).2 ≠ 0 := by
  rcases h.mirror hn with ⟨_, e⟩ | ⟨_, _, e⟩ | ⟨a0, a1, e⟩
  · rw [e]; show (1 : Int) ≠ 0; decide
  · rw [e]; show (2 : Int) ≠ 0; decide
  · rcases hr with h | h
    · exact absurd h a0
    · exact absurd h a1
theorem Part.read_ok {a : List Dev} {m : Nat} {all : List ByteArray} (h : Part a m all) (h16 : 16 ≤ m) (h64 : m ≤ 64) (h2 : m % 2 = 0) {n : Nat} (hn : n < m) (hr : (readS (dv a 0) n n).2 = 0 ∨ (readS (dv a 1) n n).2 = 0) : ∃ how, (how = 1 ∨ how = 2) ∧ arrReadS a n = (pl all n, how, 0) := by
  rcases h.read h16 h64 h2 hn with ⟨_, e⟩ | ⟨_, _, e⟩ | ⟨a0, a1, _⟩
  · exact ⟨1, .inl rfl, e⟩
  · exact ⟨2, .inr rfl, e⟩
  · rcases hr with h | h
    · exact absurd h a0
    · exact absurd h a1
theorem Part.read_par {a : List Dev} {m : Nat} {all : List ByteArray} (h : Part a m all) (h16 : 16 ≤ m) (h64 : m ≤ 64) (h2 : m % 2 = 0) {n : Nat} (hn : n < m) (h0 : (readS (dv a 0) n n).2 ≠ 0) (h1 : (readS (dv a 1) n n).2 ≠ 0)
    (hp : (readS (dv a 0) (pt n : Nat) (pt n : Nat)).2 = 0 ∨ (readS (dv a 1) (pt n : Nat) (pt n : Nat)).2 = 0) (hq : (readS (dv a 2) (n / 2 : Nat) (512 + (n / 2 : Nat) : Int)).2 = 0) : arrReadS a n = (pl all n, 3, 0) := by
  have hm := h.mirror_ok (pt_lt hn h2) hp
  rcases h.read h16 h64 h2 hn with ⟨a0, _⟩ | ⟨_, a1, _⟩ | ⟨_, _, ⟨hc, _⟩ | ⟨_, e⟩⟩
  · exact absurd a0 h0
  · exact absurd a1 h1
  · rcases hc with hc | hc
    · exact absurd hc hm
    · exact absurd hq hc
  · exact e
/-- ArraysParity. -/
theorem keep_parity {a : List Dev} {all : List ByteArray} (h : Full a 16 all) {k j : Nat} (hk : k < 16) (hj : j < 2) :
    touchCode (dv a 0) k = 0 ∧ touchCode (dv (loseA a 0 k) 1) k = 0 ∧ arrReadS (lostBoth a k) k = (pl all k, 3, 0) ∧ touchCode (dv (lostBoth a k) j) (pt k : Nat) = 0 ∧
      (∀ n : Nat, n < 16 → ∃ how, arrReadS (loseA (lostBoth a k) j (pt k)) n = (pl all n, how, 0)) ∧ touchCode (dv (lostBoth a k) 2) (k / 2 : Nat) = 0 ∧
      arrReadS (loseA (lostBoth a k) 2 (k / 2)) k = (.empty, 0, 11) ∧ ∃ how, arrReadS (loseA (lostBoth a k) 2 (k / 2)) (pt k : Nat) = (pl all (pt k), how, 0) := by
  obtain ⟨t0, t1, hp, hr, hr2⟩ := h.lostBoth (by decide) hk
  have hpk := pt_lt hk (by decide)
  obtain ⟨f1, f2, f3⟩ := pt_facts k
  have h3 := hp.good.len
  have hk0 : ∀ i, i < 2 → (readS (dv (lostBoth a k) i) k k).2 ≠ 0 := fun i hi => by rw [hr i k hi hk, if_pos rfl]; exact e11
  have hp0 : ∀ i p : Nat, i < 2 → p < 16 → p ≠ k → (readS (dv (lostBoth a k) i) p p).2 = 0 := fun i p hi hpp hne => by rw [hr i p hi hpp, if_neg hne]
  have q2 : ∀ p : Nat, p < 16 / 2 → (readS (dv (lostBoth a k) 2) p (512 + p : Int)).2 = 0 := fun p hpp => by rw [hr2 p hpp]
  have tj : touchCode (dv (lostBoth a k) j) (pt k : Nat) = 0 := by
    have := hp.good.touch (n := (pt k : Nat)) (by omega) (by omega)
    match j, hj with
    | 0, _ => exact this.1
    | 1, _ => exact this.2
  have t2 : touchCode (dv (lostBoth a k) 2) (k / 2 : Nat) = 0 := hp.good.touch2 (by omega)
  refine ⟨t0, t1, ?_, tj, fun n hn => ?_, t2, ?_, ?_⟩
  · exact hp.read_par (by decide) (by decide) (by decide) hk (hk0 0 (by decide)) (hk0 1 (by decide)) (.inl (hp0 0 _ (by decide) hpk f1)) (q2 _ (by omega))
  · have hy := hp.lose (j := j) (n := pt k) (by omega) tj
    have rd := loseA_read (a := lostBoth a k) (j := j) (n := pt k) (by omega) tj
    by_cases hnk : n = k
    · subst hnk
      refine ⟨3, hy.read_par (by decide) (by decide) (by decide) hk ?_ ?_ ?_ ?_⟩
      · rw [rd, if_neg (fun e => f1 e.2.symm)]; exact hk0 0 (by decide)
      · rw [rd, if_neg (fun e => f1 e.2.symm)]; exact hk0 1 (by decide)
      · match j, hj with
        | 0, _ => right; rw [rd, if_neg (by simp)]; exact hp0 1 _ (by decide) hpk f1
        | 1, _ => left; rw [rd, if_neg (by simp)]; exact hp0 0 _ (by decide) hpk f1
      · rw [rd, if_neg (by omega)]; exact q2 _ (by omega)
    · obtain ⟨how, _, e⟩ := hy.read_ok (n := n) (by decide) (by decide) (by decide) hn (by
        match j, hj with
        | 0, _ => right; rw [rd, if_neg (by simp)]; exact hp0 1 _ (by decide) hn hnk
        | 1, _ => left; rw [rd, if_neg (by simp)]; exact hp0 0 _ (by decide) hn hnk)
      exact ⟨how, e⟩
  · have hz := hp.lose (j := 2) (n := k / 2) (by decide) t2
    have rd := loseA_read (a := lostBoth a k) (j := 2) (n := k / 2) (by omega) t2
    have g0 : (readS (dv (loseA (lostBoth a k) 2 (k / 2)) 0) k k).2 ≠ 0 := by rw [rd, if_neg (by simp)]; exact hk0 0 (by decide)
    have g1 : (readS (dv (loseA (lostBoth a k) 2 (k / 2)) 1) k k).2 ≠ 0 := by rw [rd, if_neg (by simp)]; exact hk0 1 (by decide)
    have g2 : (readS (dv (loseA (lostBoth a k) 2 (k / 2)) 2) (k / 2 : Nat) (512 + (k / 2 : Nat) : Int)).2 ≠ 0 := by rw [rd, if_pos ⟨rfl, rfl⟩]; exact e11
    rcases hz.read (by decide) (by decide) (by decide) hk with ⟨a0, _⟩ | ⟨_, a1, _⟩ | ⟨_, _, ⟨_, e⟩ | ⟨hc, _⟩⟩
    · exact absurd a0 g0
    · exact absurd a1 g1
    · exact e
    · exact absurd hc.2 g2
  · have hz := hp.lose (j := 2) (n := k / 2) (by decide) t2
    have rd := loseA_read (a := lostBoth a k) (j := 2) (n := k / 2) (by omega) t2
    obtain ⟨how, _, e⟩ := hz.read_ok (n := pt k) (by decide) (by decide) (by decide) hpk (.inl (by rw [rd, if_neg (by simp)]; exact hp0 0 _ (by decide) hpk f1))
    exact ⟨how, e⟩
/-- What both mirrors lost is written back: the array is whole again. -/
theorem Full.back {a : List Dev} {m : Nat} {all : List ByteArray} (h : Full a m all) (h64 : m ≤ 64) {q : Nat} (hq : q < m) : Full (bothS (Go.Proofs.YtgjijcgkmofaaaaGreatDoor.lostBoth a q) q (pl all q)) m all := by
  obtain ⟨t0, t1, hp, hr, hr2⟩ := h.lostBoth h64 hq
  have h3 := h.good.len
  have hz := h.size q hq
  obtain ⟨s0, s1⟩ := hp.good.touch (n := q) (by omega) (by omega)
  obtain ⟨b0, b1, b2, b3⟩ := bothS_dv hp.good.len (q : Int) (pl all q)
  have d0 : dv (Go.Proofs.YtgjijcgkmofaaaaGreatDoor.lostBoth a q) 0 = loseS (dv a 0) q := by unfold Go.Proofs.YtgjijcgkmofaaaaGreatDoor.lostBoth; rw [loseA_dv (by rw [loseA_len]; omega), if_neg (by decide), loseA_dv (by omega), if_pos rfl]
  have d1 : dv (Go.Proofs.YtgjijcgkmofaaaaGreatDoor.lostBoth a q) 1 = loseS (dv a 1) q := by unfold Go.Proofs.YtgjijcgkmofaaaaGreatDoor.lostBoth; rw [loseA_dv (by rw [loseA_len]; omega), if_pos rfl, loseA_dv (by omega), if_neg (by decide)]
  have d2 : dv (Go.Proofs.YtgjijcgkmofaaaaGreatDoor.lostBoth a q) 2 = dv a 2 := by unfold Go.Proofs.YtgjijcgkmofaaaaGreatDoor.lostBoth; rw [loseA_dv (by rw [loseA_len]; omega), if_neg (by decide), loseA_dv (by omega), if_neg (by decide)]
  have hl : ∀ (d : Dev) (k : Nat) (s : ByteArray), touchCode d q = 0 → k ≠ q → Sound d k k s → Sound (loseS d q) k k s := by
    intro d k s ht hne hs
    rw [loseS_ok ht]
    exact ⟨hs.1, (getD_set_ne _ _ _ _ _ (by simpa using fun e => hne e.symm)).trans hs.2⟩
  obtain ⟨u0, u1⟩ := h.good.touch (n := q) (by omega) (by omega)
  refine ⟨hp.good.both (by omega) (by omega) h64 (by omega), h.len, h.size, fun k hk => ?_, fun k hk => ?_, fun k hk => ?_⟩
  · rw [b0]
    by_cases he : q = k
    · subst he
      have := Sound.write (s := pl all q) (no := (q : Int)) s0 (by omega) (by omega) (by omega)
      rwa [padS_full hz] at this
    · refine Sound.write_other ?_ s0 (by omega) (by omega) (by omega) he
      rw [d0]; exact hl _ _ _ u0 (fun e => he e.symm) (h.s0 k hk)
  · rw [b1]
    by_cases he : q = k
    · subst he
      have := Sound.write (s := pl all q) (no := (q : Int)) s1 (by omega) (by omega) (by omega)
      rwa [padS_full hz] at this
    · refine Sound.write_other ?_ s1 (by omega) (by omega) (by omega) he
      rw [d1]; exact hl _ _ _ u1 (fun e => he e.symm) (h.s1 k hk)
  · rw [b2, d2]; exact h.s2 k hk
/-- WritesStay. -/
theorem keep_write {a : List Dev} {all : List ByteArray} (h : Full a 16 all) {k : Nat} (hk : k < 16) {s : ByteArray} (hs : s.size ≤ 24) :
    touchCode (dv a 0) (pt k : Nat) = 0 ∧ touchCode (dv (loseA a 0 (pt k)) 1) (pt k : Nat) = 0 ∧ ∃ b, arrWriteS (lostBoth a (pt k)) k s = (b, 0) ∧ Full b 16 (all.set k (padS s)) := by
  have hpk := pt_lt hk (show 16 % 2 = 0 by decide)
  obtain ⟨f1, f2, f3⟩ := pt_facts k
  obtain ⟨t0, t1, hp, hr, hr2⟩ := h.lostBoth (by decide) hpk
  have hbk := h.back (by decide) hpk
  have hrd : arrReadS (lostBoth a (pt k)) (pt k : Nat) = (pl all (pt k), 3, 0) := by
    refine hp.read_par (by decide) (by decide) (by decide) hpk ?_ ?_ ?_ ?_
    · rw [hr 0 _ (by decide) hpk, if_pos rfl]; exact e11
    · rw [hr 1 _ (by decide) hpk, if_pos rfl]; exact e11
    · left; rw [f3, hr 0 _ (by decide) hk, if_neg (fun e => f1 e.symm)]
    · rw [hr2 _ (by omega)]
  have hsv : savedS (lostBoth a (pt k)) k = bothS (lostBoth a (pt k)) (pt k : Nat) (pl all (pt k)) := by
    unfold savedS
    rw [partner_pt, hrd, if_pos ⟨rfl, rfl⟩]
  obtain ⟨b, e, hb⟩ := hbk.write (by decide) (by decide) (by decide) hk hs
  refine ⟨t0, t1, b, ?_, hb⟩
  have e1 := (write_step hbk.good (by decide) (by decide) (by decide) (n := k) (by omega) (by omega) hs).1
  rw [e] at e1
  have e2 := (write_step hp.good (by decide) (by decide) (by decide) (n := k) (by omega) (by omega) hs).1
  rw [e2]
  have hs2 : savedS (bothS (lostBoth a (pt k)) (pt k : Nat) (pl all (pt k))) k = bothS (lostBoth a (pt k)) (pt k : Nat) (pl all (pt k)) := by
    unfold savedS
    rw [partner_pt, hbk.read (by decide) (by decide) (by decide) hpk, if_neg (by rintro ⟨_, h⟩; exact absurd (show (1 : Int) = 3 from h) (by decide))]
  have e3 : arrWrite3 (lostBoth a (pt k)) k s = arrWrite3 (bothS (lostBoth a (pt k)) (pt k : Nat) (pl all (pt k))) k s := by
    unfold arrWrite3; rw [hsv, hs2]
  rw [e3, ← (Prod.mk.inj e1).1]
end Go.Proofs.YtgjijcgkmofaaaaGreatDoor

/-
  strconv.Itoa in this seat: the library's contract, laid (printed by the kit's lay-shelf and lay-plain). Conditions: as they say.
-/
namespace Go.Proofs.YtgjijcgkmofaaaaGreatDoor
open Go.Shelf
def Tryz.laysM171_ren : Go.Shelf.Ren := ⟨fun | 171 => 43 | 243 => 71 | 246 => 118 | 283 => 153 | 284 => 154 | 285 => 155 | 286 => 156 | 129 => 116 | 317 => 175 | 318 => 176 | 319 => 177 | 320 => 178 | 337 => 193 | 338 => 194 | n => n, fun | 3 => 3 | 9 => 9 | 2 => 2 | 4 => 4 | 171 => 218 | 0 => 0 | 53 => 178 | 37 => 95 | 5 => 5 | 173 => 220 | 212 => 240 | 51 => 176 | 20 => 20 | 213 => 241 | 46 => 129 | 232 => 256 | 233 => 257 | n => n, fun | 17 => 1 | 18 => 2 | 19 => 3 | n => n⟩
theorem Tryz.laysM171 : Go.Proofs.LaysM.n171 Tryz.prog Tryz.laysM171_ren := {
  mixed := by kernel_rfl
  f129 := Tryz.func116.trans (congrArg some (by kernel_rfl))
  f171 := Tryz.func43.trans (congrArg some (by kernel_rfl))
  f243 := Tryz.func71.trans (congrArg some (by kernel_rfl))
  f246 := Tryz.func118.trans (congrArg some (by kernel_rfl))
  f283 := Tryz.func153.trans (congrArg some (by kernel_rfl))
  f284 := Tryz.func154.trans (congrArg some (by kernel_rfl))
  f285 := Tryz.func155.trans (congrArg some (by kernel_rfl))
  f286 := Tryz.func156.trans (congrArg some (by kernel_rfl))
  f317 := Tryz.func175.trans (congrArg some (by kernel_rfl))
  f318 := Tryz.func176.trans (congrArg some (by kernel_rfl))
  f319 := Tryz.func177.trans (congrArg some (by kernel_rfl))
  f320 := Tryz.func178.trans (congrArg some (by kernel_rfl))
  f337 := Tryz.func193.trans (congrArg some (by kernel_rfl))
  f338 := Tryz.func194.trans (congrArg some (by kernel_rfl))
  t0 := Tryz.underlying0
  a0 := Tryz.isAgg0
  z0 := Tryz.sizeOf0
  v0 := Tryz.zeroValue0
  t2 := Tryz.underlying2
  a2 := Tryz.isAgg2
  z2 := Tryz.sizeOf2
  v2 := Tryz.zeroValue2
  t3 := Tryz.underlying3
  a3 := Tryz.isAgg3
  z3 := Tryz.sizeOf3
  v3 := Tryz.zeroValue3
  t4 := Tryz.underlying4
  a4 := Tryz.isAgg4
  z4 := Tryz.sizeOf4
  v4 := Tryz.zeroValue4
  t5 := Tryz.underlying5
  a5 := Tryz.isAgg5
  z5 := Tryz.sizeOf5
  v5 := Tryz.zeroValue5
  t9 := Tryz.underlying9
  a9 := Tryz.isAgg9
  z9 := Tryz.sizeOf9
  v9 := Tryz.zeroValue9
  t20 := Tryz.underlying20
  a20 := Tryz.isAgg20
  z20 := Tryz.sizeOf20
  v20 := Tryz.zeroValue20
  t37 := Tryz.underlying95
  a37 := Tryz.isAgg95
  z37 := Tryz.sizeOf95
  v37 := Tryz.zeroValue95
  t46 := Tryz.underlying129
  a46 := Tryz.isAgg129
  z46 := Tryz.sizeOf129
  v46 := Tryz.zeroValue129
  t51 := Tryz.underlying176
  a51 := Tryz.isAgg176
  z51 := Tryz.sizeOf176
  v51 := Tryz.zeroValue176
  t53 := Tryz.underlying178
  a53 := Tryz.isAgg178
  z53 := Tryz.sizeOf178
  v53 := Tryz.zeroValue178
  t171 := Tryz.underlying218
  a171 := Tryz.isAgg218
  z171 := Tryz.sizeOf218
  v171 := Tryz.zeroValue218
  t173 := Tryz.underlying220
  a173 := Tryz.isAgg220
  z173 := Tryz.sizeOf220
  v173 := Tryz.zeroValue220
  t212 := Tryz.underlying240
  a212 := Tryz.isAgg240
  z212 := Tryz.sizeOf240
  v212 := Tryz.zeroValue240
  t213 := Tryz.underlying241
  a213 := Tryz.isAgg241
  z213 := Tryz.sizeOf241
  t232 := Tryz.underlying256
  a232 := Tryz.isAgg256
  z232 := Tryz.sizeOf256
  v232 := Tryz.zeroValue256
  t233 := Tryz.underlying257
  a233 := Tryz.isAgg257
  z233 := Tryz.sizeOf257
  v233 := Tryz.zeroValue257
  g17 := by kernel_rfl
  g18 := by kernel_rfl
  g19 := by kernel_rfl
  i0 := by kernel_rfl
  i2 := by kernel_rfl
  i3 := by kernel_rfl
  i4 := by kernel_rfl
  i5 := by kernel_rfl
  i9 := by kernel_rfl
  i20 := by kernel_rfl
  i37 := by kernel_rfl
  i46 := by kernel_rfl
  i51 := by kernel_rfl
  i53 := by kernel_rfl
  i171 := by kernel_rfl
  i173 := by kernel_rfl
  i212 := by kernel_rfl
  i232 := by kernel_rfl
  i233 := by kernel_rfl
  m17 := by kernel_rfl
  m18 := by kernel_rfl
  m19 := by kernel_rfl }
open Go.RowKit Go.Sort Go.Lib in
/-- strconv.Itoa: "Itoa is equivalent to FormatInt(int64(i), 10).": i's DECIMAL NUMERAL ('Lib.itoa': a '-' where i is negative, then the digits), FOR EVERY int. The world behind the call: the world before it, new blocks behind the heap (the library's 'var a [24]byte'), draws. (LAID: no walk: one application.) -/
theorem Tryz.strconv_Itoa (n : Int) (h0 : -9223372036854775808 ≤ n) (h1 : n ≤ 9223372036854775807) (w : World) (htab : Lib.TabIs Tryz.prog w "internal/strconv.uint64pow10" .u64 Lib.pow10Tab) :
    Calls Tryz.prog 43 #[.int .i64 n] w fun e w' => e = .returned (.string ⟨(Lib.itoa n).toArray⟩) ∧ ∃ k os, w' = grow (w.drewN k) os := Any.strconv_Itoa Tryz.laysM171 n h0 h1 w htab
end Go.Proofs.YtgjijcgkmofaaaaGreatDoor

/-
  math/bits.Mul in this seat: the library's contract, laid (printed by the kit's lay-shelf and lay-plain). Conditions: as they say.
-/
namespace Go.Proofs.YtgjijcgkmofaaaaGreatDoor
open Go.Shelf
def Tryz.lays212_ren : Go.Shelf.Ren := ⟨fun | 212 => 88 | 263 => 132 | 264 => 133 | n => n, fun | 46 => 129 | 51 => 176 | 146 => 195 | 53 => 178 | 148 => 197 | n => n, fun | n => n⟩
theorem Tryz.lays212 : Go.Proofs.Lays.n212 Tryz.prog Tryz.lays212_ren := {
  mixed := by kernel_rfl
  f212 := Tryz.func88.trans (congrArg some (by kernel_rfl))
  f263 := Tryz.func132.trans (congrArg some (by kernel_rfl))
  f264 := Tryz.func133.trans (congrArg some (by kernel_rfl))
  t46 := Tryz.underlying129
  a46 := Tryz.isAgg129
  z46 := Tryz.sizeOf129
  v46 := Tryz.zeroValue129
  t51 := Tryz.underlying176
  a51 := Tryz.isAgg176
  z51 := Tryz.sizeOf176
  v51 := Tryz.zeroValue176
  t53 := Tryz.underlying178
  a53 := Tryz.isAgg178
  z53 := Tryz.sizeOf178
  v53 := Tryz.zeroValue178
  t146 := Tryz.underlying195
  a146 := Tryz.isAgg195
  z146 := Tryz.sizeOf195
  v146 := Tryz.zeroValue195
  t148 := Tryz.underlying197
  a148 := Tryz.isAgg197
  z148 := Tryz.sizeOf197
  v148 := Tryz.zeroValue197 }
open Go.RowKit Go.Lib in
/-- math/bits.Mul: "Mul returns the full-width product of x and y": on a machine of 64 bits: Mul64's. (LAID: no walk: one application.) -/
theorem Tryz.bits_Mul (x y : Nat) (hx : x < 18446744073709551616) (hy : y < 18446744073709551616) (w : World) :
    Calls Tryz.prog 88 #[.int .u64 x, .int .u64 y] w fun e w' => e = .returned (.tuple #[.int .u64 ((x * y / 18446744073709551616 : Nat) : Int), .int .u64 ((x * y % 18446744073709551616 : Nat) : Int)]) ∧ w' = w := Any.bits_Mul Tryz.lays212 x y hx hy w
end Go.Proofs.YtgjijcgkmofaaaaGreatDoor
