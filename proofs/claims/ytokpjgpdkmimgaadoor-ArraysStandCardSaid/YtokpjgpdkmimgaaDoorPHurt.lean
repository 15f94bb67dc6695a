/-
  A device that is hurt: sectors lost, bytes turned (of no sector twice), the device replaced; what it tells then is right. In plain Lean. Conditions: the acts are within the device.
-/
import Derived.Test.YtokpjgpdkmimgaaDoorJ12
import Derived.Test.YtokpjgpdkmimgaaDoorWArrRepl
namespace Go.Proofs.YtokpjgpdkmimgaaDoor
set_option linter.unusedSimpArgs false
set_option linter.unusedVariables false
open Go.RowKit

/-- What an act does. -/
def hurtOne (a : List Dev) (x : HA) : List Dev :=
  if x.kind = 6 then a.set x.d (lostDev (devAt (dv a 0).sec.length x.d))
  else if x.kind = 5 then (if (turnS (dv a x.d) x.n x.at_ x.by_).2 = 0 then a.set x.d (turnS (dv a x.d) x.n x.at_ x.by_).1 else a)
  else loseOne a x
def hurtAll (a : List Dev) (l : List HA) : List Dev := l.foldl hurtOne a
theorem hurtAll_snoc (a : List Dev) (l : List HA) (k : Nat) (h : k < l.length) : hurtAll a (l.take (k + 1)) = hurtOne (hurtAll a (l.take k)) l[k] := by
  unfold hurtAll
  rw [List.take_succ_eq_append_getElem h, List.foldl_append]
  rfl
/-- The sectors that are turned. -/
def turned (l : List HA) : List Int := (l.filter fun x => decide (x.kind = 5)).map (·.n)
theorem turned_snoc (l : List HA) (x : HA) : turned (l ++ [x]) = turned l ++ (if x.kind = 5 then [x.n] else []) := by
  unfold turned
  rw [List.filter_append, List.map_append]
  congr 1
  by_cases h : x.kind = 5
  · simp [h]
  · simp [h]
theorem turned_cons (l : List HA) (x : HA) : turned (x :: l) = (if x.kind = 5 then [x.n] else []) ++ turned l := by
  unfold turned
  by_cases h : x.kind = 5
  · simp [h]
  · simp [h]
/-- An act that hurts sectors of device k. -/
def ActOk (k sz : Nat) (x : HA) : Prop := x.d = k ∧ (x.kind = 4 ∨ x.kind = 5 ∨ x.kind = 6) ∧ 0 ≤ x.n ∧ x.n < sz ∧ 0 ≤ x.at_ ∧ x.at_ ≤ 29 ∧ 0 ≤ x.by_ ∧ x.by_ ≤ 255
/-- A device of which each sector is lost, or as it was written, or turned once. -/
def DInv (d : Dev) (sz : Nat) (no : Nat → Int) (ex : Nat → ByteArray) (T : List Int) : Prop :=
  devMay d = true ∧ d.sec.length = sz ∧ ∀ n : Nat, n < sz → d.lost.getD n false = true ∨ ((n : Int) ∉ T ∧ Sound d n (no n) (ex n)) ∨
    ((n : Int) ∈ T ∧ d.lost.getD n false = false ∧ ∃ p b : Int, 0 ≤ p ∧ p ≤ 29 ∧ 0 ≤ b ∧ b ≤ 255 ∧ d.sec.getD n .empty = turnB (encodeS (no n) (ex n)).1 p b)
theorem turnB_zero (s : ByteArray) (p : Int) (h0 : 0 ≤ p) (h1 : p < s.size) : turnB s p 0 = s := by
  unfold turnB
  have hb := u8_bd (at_ s p.toNat)
  rw [Int.add_zero, Int.emod_eq_of_lt hb.1 hb.2, byte_u8]
  have hl : p.toNat < (lst s).length := by rw [length_lst]; omega
  have : (lst s).set p.toNat (at_ s p.toNat) = lst s := by
    apply List.ext_getElem?
    intro i
    rw [List.getElem?_set]
    split
    · rename_i hi
      subst hi
      rw [at_lst, List.getD_eq_getElem?_getD, List.getElem?_eq_getElem hl]
      rfl
    · rfl
  rw [this, bs_lst]
theorem DInv.read {d : Dev} {sz : Nat} {no : Nat → Int} {ex : Nat → ByteArray} {T : List Int} (h : DInv d sz no ex T) (hno : ∀ n, n < sz → 0 ≤ no n ∧ no n ≤ 65535) (hex : ∀ n, n < sz → (ex n).size = 24) {n : Nat} (hn : n < sz) : readS d n (no n) = (ex n, 0) ∨ (readS d n (no n)).2 ≠ 0 := by
  obtain ⟨hm, hl, hs⟩ := h
  have ht : touchCode d n = 0 := touch_iff.2 ⟨hm, by omega, by omega⟩
  obtain ⟨n0, n1⟩ := hno n hn
  have hz := hex n hn
  rcases hs n hn with h | ⟨_, h⟩ | ⟨_, hlo, p, b, p0, p1, b0, b1, h⟩
  · right
    rw [read_eq _ ht, show ((n : Int)).toNat = n from rfl, h, if_pos rfl]
    show (11 : Int) ≠ 0
    decide
  · left
    exact h.read ht n0 n1 hz
  · rw [read_eq _ ht, show ((n : Int)).toNat = n from rfl, hlo, if_neg (by decide), h]
    by_cases hb : b = 0
    · left
      subst hb
      rw [turnB_zero _ _ p0 (by rw [encodeS_size n0 n1 (by omega)]; omega), decode_encode _ _ _ n0 n1 (by omega), if_pos rfl, padS_full hz]
    · right
      unfold turnB
      rw [decode_spoilt (no n) (no n) (ex n) n0 n1 (by omega) p.toNat (by omega) _ (by
        intro he
        have := byte_toNat ((((at_ (encodeS (no n) (ex n)).1 p.toNat).toNat : Int) + b) % 256) (by omega) (by omega)
        rw [he] at this
        have hb2 := u8_bd (at_ (encodeS (no n) (ex n)).1 p.toNat)
        omega)]
      show (10 : Int) ≠ 0
      decide
theorem DInv.lose {d : Dev} {sz : Nat} {no : Nat → Int} {ex : Nat → ByteArray} {T : List Int} (h : DInv d sz no ex T) {n : Nat} (hn : n < sz) : DInv (loseS d n) sz no ex T := by
  obtain ⟨hm, hl, hs⟩ := h
  have ht : touchCode d n = 0 := touch_iff.2 ⟨hm, by omega, by omega⟩
  obtain ⟨m1, m2, m3, _⟩ := devMay_len hm
  refine ⟨lose_may ht, by rw [lose_len ht]; exact hl, fun i hi => ?_⟩
  rw [loseS_ok ht]
  by_cases he : n = i
  · subst he
    left
    exact getD_set_self _ _ _ _ (by show n < d.lost.length; omega)
  · have e1 : (d.lost.set ((n : Int)).toNat true).getD i false = d.lost.getD i false := getD_set_ne _ _ _ _ _ (by simpa using he)
    rcases hs i hi with h | ⟨h1, h2⟩ | ⟨h1, h2, h3⟩
    · left; exact e1.trans h
    · right; left; exact ⟨h1, h2.1, e1.trans h2.2⟩
    · right; right; exact ⟨h1, e1.trans h2, h3⟩
theorem DInv.turn {d : Dev} {sz : Nat} {no : Nat → Int} {ex : Nat → ByteArray} {T : List Int} (h : DInv d sz no ex T) {n : Nat} (hn : n < sz) (hT : (n : Int) ∉ T) {p b : Int} (hp : 0 ≤ p ∧ p ≤ 29) (hb : 0 ≤ b ∧ b ≤ 255) :
    (turnS d n p b).2 = 0 ∧ DInv (turnS d n p b).1 sz no ex ((n : Int) :: T) := by
  obtain ⟨hm, hl, hs⟩ := h
  have ht : touchCode d n = 0 := touch_iff.2 ⟨hm, by omega, by omega⟩
  have hk := turn_may ht hp hb
  have e := turnS_ok ht hp hb
  refine ⟨by rw [e], hk.1, by rw [hk.2]; exact hl, fun i hi => ?_⟩
  rw [e]
  by_cases he : n = i
  · subst he
    rcases hs n hn with h | ⟨h1, h2⟩ | ⟨h1, _⟩
    · left; exact h
    · right; right
      refine ⟨List.mem_cons_self, h2.2, p, b, hp.1, hp.2, hb.1, hb.2, ?_⟩
      show (d.sec.set ((n : Int)).toNat _).getD n .empty = _
      rw [show ((n : Int)).toNat = n from rfl, getD_set_self _ _ _ _ (by omega), h2.1]
    · exact absurd h1 hT
  · have e1 : (d.sec.set ((n : Int)).toNat (turnB (d.sec.getD ((n : Int)).toNat .empty) p b)).getD i .empty = d.sec.getD i .empty := getD_set_ne _ _ _ _ _ (by simpa using he)
    have hmem : (i : Int) ∈ (n : Int) :: T ↔ (i : Int) ∈ T := by
      constructor
      · intro h
        rcases List.mem_cons.1 h with h | h
        · omega
        · exact h
      · intro h; exact List.mem_cons_of_mem _ h
    rcases hs i hi with h | ⟨h1, h2⟩ | ⟨h1, h2, p', b', q0, q1, q2, q3, q4⟩
    · left; exact h
    · right; left; exact ⟨fun h => h1 (hmem.1 h), e1.trans h2.1, h2.2⟩
    · right; right; exact ⟨hmem.2 h1, h2, p', b', q0, q1, q2, q3, e1.trans q4⟩
theorem lost_inv {d : Dev} (hm : devMay d = true) (no : Nat → Int) (ex : Nat → ByteArray) (T : List Int) : DInv (lostDev d) d.sec.length no ex T := by
  obtain ⟨m1, m2, m3, _⟩ := devMay_len hm
  refine ⟨devMay_lost hm _ (by simp), rfl, fun n hn => ?_⟩
  left
  show (List.replicate d.lost.length true).getD n false = true
  rw [List.getD_eq_getElem?_getD, List.getElem?_replicate, if_pos (by omega)]
  rfl
/-- An array of which one device is hurt. -/
structure HInv (a b : List Dev) (m k : Nat) (no : Nat → Int) (ex : Nat → ByteArray) (T : List Int) : Prop where
  good : Good b m
  others : ∀ j, j ≠ k → dv b j = dv a j
  dev : DInv (dv b k) (dv a k).sec.length no ex T
theorem dv_set (a : List Dev) {k : Nat} (h : k < a.length) (d : Dev) (j : Nat) : dv (a.set k d) j = if j = k then d else dv a j := by
  by_cases hj : j = k
  · subst hj; rw [if_pos rfl, dv_set_self h]
  · rw [if_neg hj, dv_set_ne _ (fun e => hj e.symm)]
theorem HInv.put {a b : List Dev} {m k : Nat} {no : Nat → Int} {ex : Nat → ByteArray} {T T' : List Int} (h : HInv a b m k no ex T) (hk : k < 3) {d : Dev} (hd : DInv d (dv a k).sec.length no ex T') : HInv a (b.set k d) m k no ex T' := by
  have hb := h.good.len
  refine ⟨h.good.dev hk hd.1 (by rw [hd.2.1, h.dev.2.1]), fun j hj => ?_, ?_⟩
  · rw [dv_set b (by omega), if_neg hj]; exact h.others j hj
  · rw [dv_set b (by omega), if_pos rfl]; exact hd
theorem devAt_may {m : Nat} (h16 : 16 ≤ m) (h64 : m ≤ 64) (k : Nat) : devMay (devAt m k) = true := by
  unfold devAt
  split
  · exact fresh_may _ _ (by omega) (by omega) (by omega) (by omega)
  · exact fresh_may _ _ (by omega) (by omega) (by omega) (by omega)
theorem Good.devAt_len {a : List Dev} {m : Nat} (h : Good a m) {k : Nat} (hk : k < 3) : (devAt m k).sec.length = (dv a k).sec.length := by
  match k, hk with
  | 0, _ => rw [h.l0]; exact fresh_len _ _
  | 1, _ => rw [h.l1]; exact fresh_len _ _
  | 2, _ => rw [h.l2]; exact fresh_len _ _
theorem HInv.step {a b : List Dev} {m k : Nat} {no : Nat → Int} {ex : Nat → ByteArray} {T : List Int} (ha : Good a m) (h16 : 16 ≤ m) (h64 : m ≤ 64) (h : HInv a b m k no ex T) (hk : k < 3) {x : HA} (hx : ActOk k (dv a k).sec.length x) (hT : x.kind = 5 → x.n ∉ T) :
    HInv a (hurtOne b x) m k no ex (if x.kind = 5 then x.n :: T else T) := by
  obtain ⟨hd, hkd, n0, n1, p0, p1, b0, b1⟩ := hx
  obtain ⟨n, hn⟩ := Int.eq_ofNat_of_zero_le n0
  have hl := h.dev.2.1
  have ht : touchCode (dv b k) n = 0 := touch_iff.2 ⟨h.dev.1, by omega, by omega⟩
  unfold hurtOne
  rcases hkd with hk4 | hk5 | hk6
  · rw [if_neg (by omega), if_neg (by omega), if_neg (by omega)]
    unfold loseOne
    rw [hd, hn, if_pos ht]
    exact h.put hk (h.dev.lose (by omega))
  · rw [if_neg (by omega), if_pos hk5, if_pos hk5]
    have htu := h.dev.turn (n := n) (by omega) (by rw [← hn]; exact hT hk5) ⟨p0, p1⟩ ⟨b0, b1⟩
    rw [hd, hn, if_pos htu.1]
    exact h.put hk htu.2
  · rw [if_pos hk6, if_neg (by omega), hd, h.good.l0]
    have hdm := devAt_may h16 h64 k
    have hlen := ha.devAt_len hk
    refine h.put hk ?_
    have := lost_inv hdm no ex T
    rw [hlen] at this
    exact this
theorem HInv.all {a : List Dev} {m k : Nat} {no : Nat → Int} {ex : Nat → ByteArray} (ha : Good a m) (h16 : 16 ≤ m) (h64 : m ≤ 64) (hk : k < 3) : ∀ (l : List HA) (b : List Dev) (T : List Int), HInv a b m k no ex T → (∀ x ∈ l, ActOk k (dv a k).sec.length x) → (turned l).Nodup → (∀ n ∈ turned l, n ∉ T) → ∃ T', HInv a (hurtAll b l) m k no ex T'
  | [], b, T, h, _, _, _ => ⟨T, h⟩
  | x :: l, b, T, h, hx, hn, hT => by
    rw [turned_cons] at hn hT
    have hs := h.step ha h16 h64 hk (hx x List.mem_cons_self) (fun h5 => hT x.n (by rw [if_pos h5]; simp))
    refine HInv.all ha h16 h64 hk l (hurtOne b x) _ hs (fun y hy => hx y (List.mem_cons_of_mem _ hy)) ?_ ?_
    · exact (List.nodup_append.1 hn).2.1
    · intro n hn2
      by_cases h5 : x.kind = 5
      · rw [if_pos h5] at hn hT ⊢
        intro hmem
        rcases List.mem_cons.1 hmem with he | he
        · exact (List.nodup_append.1 hn).2.2 x.n (by simp) n hn2 he.symm
        · exact hT n (by simp [hn2]) he
      · rw [if_neg h5] at hT ⊢
        exact hT n (by simpa using hn2)
/-- The number and the payload of a sector of device k. -/
def noOf (k n : Nat) : Int := if k = 2 then 512 + n else n
def exOf (all : List ByteArray) (k n : Nat) : ByteArray := if k = 2 then pp all n else pl all n
/-- ArraysStand. -/
theorem keep_stand {a : List Dev} {m : Nat} {all : List ByteArray} (h : Full a m all) (h16 : 16 ≤ m) (h64 : m ≤ 64) (h2 : m % 2 = 0) {k : Nat} (hk : k < 3) {l : List HA} (hl : ∀ x ∈ l, ActOk k (dv a k).sec.length x) (hn : (turned l).Nodup) :
    Part (hurtAll a l) m all ∧ ∀ i : Nat, i < m → ∃ how : Int, arrReadS (hurtAll a l) i = (pl all i, how, 0) ∧ (how = 1 ∨ (how = 2 ∧ k = 0)) := by
  have hlen : ∀ j, j < 3 → (dv a j).sec.length = if j = 2 then m / 2 else m := by
    intro j hj
    match j, hj with
    | 0, _ => exact h.good.l0
    | 1, _ => exact h.good.l1
    | 2, _ => exact h.good.l2
  have hmay : ∀ j, j < 3 → devMay (dv a j) = true := by
    intro j hj
    match j, hj with
    | 0, _ => exact h.good.m0
    | 1, _ => exact h.good.m1
    | 2, _ => exact h.good.m2
  have hsound : ∀ j, j < 3 → ∀ n : Nat, n < (dv a j).sec.length → Sound (dv a j) n (noOf j n) (exOf all j n) := by
    intro j hj n hnl
    rw [hlen j hj] at hnl
    match j, hj with
    | 0, _ => exact h.s0 n hnl
    | 1, _ => exact h.s1 n hnl
    | 2, _ => exact h.s2 n hnl
  have h0 : HInv a a m k (noOf k) (exOf all k) [] := ⟨h.good, fun _ _ => rfl, hmay k hk, rfl, fun n hnl => .inr (.inl ⟨by simp, hsound k hk n hnl⟩)⟩
  obtain ⟨T, hb⟩ := HInv.all h.good h16 h64 hk l a [] h0 hl hn (fun _ _ => by simp)
  obtain ⟨r0, r1, r2⟩ := h.reads h64
  have hno : ∀ n, n < (dv a k).sec.length → 0 ≤ noOf k n ∧ noOf k n ≤ 65535 := by
    intro n hnl
    rw [hlen k hk] at hnl
    unfold noOf
    split at hnl <;> split <;> omega
  have hex : ∀ n, n < (dv a k).sec.length → (exOf all k n).size = 24 := by
    intro n hnl
    rw [hlen k hk] at hnl
    unfold exOf
    split
    · rename_i h2'; rw [if_pos h2'] at hnl; exact pp_size h.size hnl
    · rename_i h2'; rw [if_neg h2'] at hnl; exact h.size n hnl
  have hrd : ∀ n : Nat, n < (dv a k).sec.length → readS (dv (hurtAll a l) k) n (noOf k n) = (exOf all k n, 0) ∨ (readS (dv (hurtAll a l) k) n (noOf k n)).2 ≠ 0 := fun n hnl => hb.dev.read hno hex hnl
  have hp : Part (hurtAll a l) m all := by
    refine ⟨hb.good, h.len, h.size, fun n hnm hc => ?_, fun n hnm hc => ?_, fun n hnm hc => ?_⟩
    · by_cases hk0 : k = 0
      · subst hk0
        rcases hrd n (by rw [hlen 0 hk]; exact hnm) with e | e
        · have e' : readS (dv (hurtAll a l) 0) n n = (pl all n, 0) := e
          rw [e']
        · exact absurd hc e
      · rw [hb.others 0 (fun e => hk0 e.symm), r0 n hnm]
    · by_cases hk0 : k = 1
      · subst hk0
        rcases hrd n (by rw [hlen 1 hk]; exact hnm) with e | e
        · have e' : readS (dv (hurtAll a l) 1) n n = (pl all n, 0) := e
          rw [e']
        · exact absurd hc e
      · rw [hb.others 1 (fun e => hk0 e.symm), r1 n hnm]
    · by_cases hk0 : k = 2
      · subst hk0
        rcases hrd n (by rw [hlen 2 hk]; exact hnm) with e | e
        · have e' : readS (dv (hurtAll a l) 2) n (512 + n : Int) = (pp all n, 0) := e
          rw [e']
        · exact absurd hc e
      · rw [hb.others 2 (fun e => hk0 e.symm), r2 n hnm]
  refine ⟨hp, fun i hi => ?_⟩
  rcases hp.read h16 h64 h2 hi with ⟨_, e⟩ | ⟨c0, _, e⟩ | ⟨c0, c1, _⟩
  · exact ⟨1, e, .inl rfl⟩
  · refine ⟨2, e, .inr ⟨rfl, ?_⟩⟩
    by_cases hk0 : k = 0
    · exact hk0
    · rw [hb.others 0 (fun e => hk0 e.symm), r0 i hi] at c0
      exact absurd rfl c0
  · by_cases hk0 : k = 0
    · rw [hb.others 1 (by omega), r1 i hi] at c1
      exact absurd rfl c1
    · rw [hb.others 0 (fun e => hk0 e.symm), r0 i hi] at c0
      exact absurd rfl c0
end Go.Proofs.YtokpjgpdkmimgaaDoor
