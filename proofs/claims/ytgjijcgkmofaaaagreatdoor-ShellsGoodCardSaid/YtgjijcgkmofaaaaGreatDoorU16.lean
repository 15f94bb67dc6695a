/-
  Writing a sector of an array of which no copy tells anything wrong, in plain Lean: no copy tells anything wrong then. Conditions: the sector is within the array.
-/
import Derived.Test.YtgjijcgkmofaaaaGreatDoorU15
import Derived.Lib.OthersKept
import Derived.WalkSmall
namespace Go.Proofs.YtgjijcgkmofaaaaGreatDoor
set_option linter.unusedSimpArgs false
set_option linter.unusedVariables false
set_option maxRecDepth 100000
set_option maxHeartbeats 8000000
open Go.RowKit
theorem Part.both {a : List Dev} {m : Nat} {all : List ByteArray} (h : Part a m all) (h64 : m ≤ 64) {n : Nat} (hn : n < m) : Part (bothS a n (pl all n)) m all := by
 have h3 := h.good.len
 have hz := h.size n hn
 obtain ⟨t0, t1⟩ := h.good.touch (n := (n : Int)) (by omega) (by omega)
 have key : ∀ d : Dev, touchCode d n = 0 → (∀ p : Nat, p < m → (readS d p p).2 = 0 → (readS d p p).1 = pl all p) → ∀ p : Nat, p < m → (readS (writeS d n n (pl all n)).1 p p).2 = 0 → (readS (writeS d n n (pl all n)).1 p p).1 = pl all p := by
  intro d ht hold p hp
  by_cases hpn : p = n
  ·subst hpn
   intro _
   rw [read_write ht (by omega) (by omega) (by omega), if_pos rfl, padS_full hz]
  ·rw [read_write_other ht (by omega) (by omega) (by omega) p p (by omega) (by omega)]
   exact hold p hp
 have w0 := write_may (no := (n : Int)) (s := pl all n) t0 (by omega) (by omega) (by omega)
 have w1 := write_may (no := (n : Int)) (s := pl all n) t1 (by omega) (by omega) (by omega)
 have p0 := h.put (j := 0) (by decide) w0.1 w0.2 (fun _ => key _ t0 h.r0) (fun e => by omega) (fun e => by omega)
 have e1 : dv (a.set 0 (writeS (dv a 0) n n (pl all n)).1) 1 = dv a 1 := dv_set_ne _ (by decide) _
 exact p0.put (j := 1) (by decide) w1.1 (by rw [e1]; exact w1.2) (fun e => by omega) (fun _ => key _ t1 h.r1) (fun e => by omega)
theorem Part.saved {a : List Dev} {m : Nat} {all : List ByteArray} (h : Part a m all) (h16 : 16 ≤ m) (h64 : m ≤ 64) (h2 : m % 2 = 0) {n : Nat} (hn : n < m) : Part (savedS a n) m all := by
 have hp := pt_lt hn h2
 unfold savedS
 rw [partner_pt]
 rcases h.read h16 h64 h2 hp with ⟨_, e⟩ | ⟨_, _, e⟩ | ⟨_, _, ⟨_, e⟩ | ⟨_, e⟩⟩
 ·rw [e, if_neg (by rintro ⟨_, hh⟩; exact absurd (show (1 : Int) = 3 from hh) (by decide))]; exact h
 ·rw [e, if_neg (by rintro ⟨_, hh⟩; exact absurd (show (2 : Int) = 3 from hh) (by decide))]; exact h
 ·rw [e, if_neg (by rintro ⟨hh, _⟩; exact absurd (show (11 : Int) = 0 from hh) (by decide))]; exact h
 ·rw [e, if_pos ⟨rfl, rfl⟩]
  exact h.both h64 hp
theorem Part.write {a : List Dev} {m : Nat} {all : List ByteArray} (h : Part a m all) (h16 : 16 ≤ m) (h64 : m ≤ 64) (h2 : m % 2 = 0) {n : Nat} (hn : n < m) {s : ByteArray} (hs : s.size ≤ 24) :
  arrWriteS a n s = (arrWrite3 a n s, 0) ∧ Part (arrWrite3 a n s) m (all.set n (padS s)) := by
 obtain ⟨e1, hg⟩ := write_step h.good h16 h64 h2 (n := n) (by omega) (by omega) hs
 refine ⟨e1, ?_⟩
 have hsv := h.saved h16 h64 h2 hn
 obtain ⟨b, hb⟩ : ∃ b, b = savedS a n := ⟨_, rfl⟩
 have hw : arrWrite3 a n s = parityS (bothS b n s) n := by rw [hb]; rfl
 rw [← hb] at hsv
 rw [hw] at hg ⊢
 clear hw e1 h hb
 have hp := pt_lt hn h2
 have hpf := pt_facts n
 have hln := hsv.len
 have h3 := hsv.good.len
 obtain ⟨b0, b1, b2, b3⟩ := bothS_dv hsv.good.len (n : Int) s
 obtain ⟨t0, t1⟩ := hsv.good.touch (n := (n : Int)) (by omega) (by omega)
 have t2 := hsv.good.touch2 (n := n / 2) (by omega)
 obtain ⟨c, hc⟩ : ∃ c, c = bothS b n s := ⟨_, rfl⟩
 rw [← hc] at b0 b1 b2 b3 hg ⊢
 have key : ∀ d : Dev, touchCode d n = 0 → (∀ p : Nat, p < m → (readS d p p).2 = 0 → (readS d p p).1 = pl all p) → ∀ p : Nat, p < m → (readS (writeS d n n s).1 p p).2 = 0 → (readS (writeS d n n s).1 p p).1 = pl (all.set n (padS s)) p := by
  intro d ht hold p hp
  by_cases hpn : p = n
  ·subst hpn
   intro _
   rw [read_write ht (by omega) (by omega) hs, if_pos rfl, pl_set_self (by omega)]
  ·rw [read_write_other ht (by omega) (by omega) hs p p (by omega) (by omega), pl_set_ne _ (fun e => hpn e.symm)]
   exact hold p hp
 have k0 := key _ t0 hsv.r0
 have k1 := key _ t1 hsv.r1
 rw [← b0] at k0
 rw [← b1] at k1
 have ht2 : touchCode (dv c 2) ((n / 2 : Nat) : Int) = 0 := by rw [b2]; exact t2
 have hq : ((n : Int) / 2) = ((n / 2 : Nat) : Int) := by omega
 have hsz : ∀ k : Nat, k < m → (pl (all.set n (padS s)) k).size = 24 := by
  intro k hk
  by_cases he : n = k
  ·subst he; rw [pl_set_self (by omega)]; exact padS_size hs
  ·rw [pl_set_ne _ he]; exact hsv.size k hk
 have ho2 : ∀ k : Nat, k < m / 2 → k ≠ n / 2 → (readS (dv c 2) k (512 + k : Int)).2 = 0 → (readS (dv c 2) k (512 + k : Int)).1 = pp (all.set n (padS s)) k := by
  intro k hk hkn hr
  rw [b2] at hr ⊢
  rw [pp_set_other _ (fun e => hkn e.symm)]
  exact hsv.r2 k hk hr
 have hmn : mirrorS c n = (padS s, 1) := by
  unfold mirrorS
  rw [b0, read_write t0 (by omega) (by omega) hs, if_pos rfl, if_pos rfl]
 have hmp : mirrorS c (pt n : Nat) = mirrorS b (pt n : Nat) := by
  unfold mirrorS
  rw [b0, b1, read_write_other t0 (by omega) (by omega) hs _ _ (by omega) (by omega), read_write_other t1 (by omega) (by omega) hs _ _ (by omega) (by omega)]
 have fin : ∀ d2 : Dev, (∀ k : Nat, k < m / 2 → (readS d2 k (512 + k : Int)).2 = 0 → (readS d2 k (512 + k : Int)).1 = pp (all.set n (padS s)) k) → Good (c.set 2 d2) m → Part (c.set 2 d2) m (all.set n (padS s)) := by
  intro d2 hd2 hgd
  have g0 : dv (c.set 2 d2) 0 = dv c 0 := dv_set_ne _ (by decide) _
  have g1 : dv (c.set 2 d2) 1 = dv c 1 := dv_set_ne _ (by decide) _
  have g2 : dv (c.set 2 d2) 2 = d2 := dv_set_self (by omega) _
  exact ⟨hgd, by rw [List.length_set]; exact hln, hsz, fun k hk => by rw [g0]; exact k0 k hk, fun k hk => by rw [g1]; exact k1 k hk, fun k hk => by rw [g2]; exact hd2 k hk⟩
 unfold parityS at hg ⊢
 rw [hmn, partner_pt, hmp] at hg ⊢
 have hcase : (mirrorS b (pt n : Nat)).2 = 0 ∨ ((mirrorS b (pt n : Nat)).2 ≠ 0 ∧ (mirrorS b (pt n : Nat)).1 = pl all (pt n)) := by
  rcases hsv.mirror hp with ⟨_, e⟩ | ⟨_, _, e⟩ | ⟨_, _, e⟩
  ·right; rw [e]; exact ⟨by show ¬ (1 : Int) = 0; decide, rfl⟩
  ·right; rw [e]; exact ⟨by show ¬ (2 : Int) = 0; decide, rfl⟩
  ·left; rw [e]
 rcases hcase with hm0 | ⟨hm0, hm1⟩
 ·rw [if_neg (by rintro ⟨_, hh⟩; exact hh hm0)] at hg ⊢
  refine fin _ (fun k hk hr => ?_) hg
  rw [hq] at hr ⊢
  by_cases hkn : k = n / 2
  ·rw [hkn, read_lose ht2] at hr
   exact absurd hr (by show ¬ (11 : Int) = 0; decide)
  ·rw [read_lose_other ht2 k _ (by omega) (by omega)] at hr ⊢
   exact ho2 k hk hkn hr
 ·rw [if_pos ⟨by show ¬ (1 : Int) = 0; decide, hm0⟩] at hg ⊢
  refine fin _ (fun k hk hr => ?_) hg
  have hx : (xorS (padS s) (pl all (pt n))).size = 24 := by
   have := padS_size hs
   rw [xorS_size (by rw [this, hsv.size _ hp]), this]
  unfold writeP at hr ⊢
  dsimp only at hr ⊢
  rw [hq, hm1] at hr ⊢
  by_cases hkn : k = n / 2
  ·subst hkn
   rw [read_write ht2 (by omega) (by omega) (by omega), if_pos rfl, padS_full hx, pp_eq, pl_set_self (by omega), pl_set_ne _ (fun e => hpf.1 e.symm)]
  ·rw [read_write_other ht2 (by omega) (by omega) (by omega) k _ (by omega) (by omega)] at hr ⊢
   exact ho2 k hk hkn hr
theorem Ones.saved {a : List Dev} {m k : Nat} {all : List ByteArray} (ho : Ones a m k) (h : Part a m all) (h16 : 16 ≤ m) (h64 : m ≤ 64) (h2 : m % 2 = 0) {n : Nat} (hn : n < m) : savedS a n = a := by
 have hp := pt_lt hn h2
 have hr : (readS (dv a 0) (pt n : Nat) (pt n : Nat)).2 = 0 ∨ (readS (dv a 1) (pt n : Nat) (pt n : Nat)).2 = 0 := by
  by_cases hk : k = 0
  ·exact .inr ((Cp.mir (by decide)).1 (ho 1 _ (by decide) (by omega) (by rw [if_neg (by decide)]; exact hp)))
  ·exact .inl ((Cp.mir (by decide)).1 (ho 0 _ (by decide) (by omega) (by rw [if_neg (by decide)]; exact hp)))
 obtain ⟨how, hh, e⟩ := h.read_ok h16 h64 h2 hp hr
 unfold savedS
 rw [partner_pt, e, if_neg]
 rintro ⟨_, h3⟩
 have h3' : how = 3 := h3
 rcases hh with rfl | rfl
 ·exact absurd h3' (by decide)
 ·exact absurd h3' (by decide)
theorem Ones.write {a : List Dev} {m k : Nat} {all : List ByteArray} (ho : Ones a m k) (h : Part a m all) (h16 : 16 ≤ m) (h64 : m ≤ 64) (h2 : m % 2 = 0) {n : Nat} (hn : n < m) {s : ByteArray} (hs : s.size ≤ 24) :
  (∀ i p : Nat, i < 3 → Cp a i p → Cp (arrWrite3 a n s) i p) ∧ Ones (arrWrite3 a n s) m k := by
 have hmono : ∀ i p : Nat, i < 3 → Cp a i p → Cp (arrWrite3 a n s) i p := by
  have hp := pt_lt hn h2
  have hpf := pt_facts n
  have h3 := h.good.len
  have hw : arrWrite3 a n s = parityS (bothS a n s) n := by
   have e : arrWrite3 a n s = parityS (bothS (savedS a n) n s) n := rfl
   rw [e, ho.saved h h16 h64 h2 hn]
  rw [hw]
  obtain ⟨b0, b1, b2, b3⟩ := bothS_dv h.good.len (n : Int) s
  obtain ⟨t0, t1⟩ := h.good.touch (n := (n : Int)) (by omega) (by omega)
  have t2 := h.good.touch2 (n := n / 2) (by omega)
  obtain ⟨c, hc⟩ : ∃ c, c = bothS a n s := ⟨_, rfl⟩
  rw [← hc] at b0 b1 b2 b3 ⊢
  have hq : ((n : Int) / 2) = ((n / 2 : Nat) : Int) := by omega
  have ht2 : touchCode (dv c 2) ((n / 2 : Nat) : Int) = 0 := by rw [b2]; exact t2
  have hmn : mirrorS c n = (padS s, 1) := by
   unfold mirrorS
   rw [b0, read_write t0 (by omega) (by omega) hs, if_pos rfl, if_pos rfl]
  have hmp : mirrorS c (pt n : Nat) = mirrorS a (pt n : Nat) := by
   unfold mirrorS
   rw [b0, b1, read_write_other t0 (by omega) (by omega) hs _ _ (by omega) (by omega), read_write_other t1 (by omega) (by omega) hs _ _ (by omega) (by omega)]
  have hr : (readS (dv a 0) (pt n : Nat) (pt n : Nat)).2 = 0 ∨ (readS (dv a 1) (pt n : Nat) (pt n : Nat)).2 = 0 := by
   by_cases hk : k = 0
   ·exact .inr ((Cp.mir (by decide)).1 (ho 1 _ (by decide) (by omega) (by rw [if_neg (by decide)]; exact hp)))
   ·exact .inl ((Cp.mir (by decide)).1 (ho 0 _ (by decide) (by omega) (by rw [if_neg (by decide)]; exact hp)))
  have hm0 := h.mirror_ok hp hr
  have hm1 : (mirrorS a (pt n : Nat)).1 = pl all (pt n) := by
   rcases h.mirror hp with ⟨_, e⟩ | ⟨_, _, e⟩ | ⟨_, _, e⟩
   ·rw [e]
   ·rw [e]
   ·rw [e] at hm0; exact absurd rfl hm0
  have hx : (xorS (padS s) (pl all (pt n))).size = 24 := by
   have := padS_size hs
   rw [xorS_size (by rw [this, h.size _ hp]), this]
  unfold parityS
  rw [hmn, partner_pt, hmp, if_pos ⟨by show ¬ (1 : Int) = 0; decide, hm0⟩]
  unfold writeP
  dsimp only
  rw [hq, hm1]
  intro i p hi hcp
  have g0 : dv (c.set 2 (writeS (dv c 2) ((n / 2 : Nat) : Int) (512 + ((n / 2 : Nat) : Int)) (xorS (padS s) (pl all (pt n)))).1) 0 = dv c 0 := dv_set_ne _ (by decide) _
  have g1 : dv (c.set 2 (writeS (dv c 2) ((n / 2 : Nat) : Int) (512 + ((n / 2 : Nat) : Int)) (xorS (padS s) (pl all (pt n)))).1) 1 = dv c 1 := dv_set_ne _ (by decide) _
  have g2 : dv (c.set 2 (writeS (dv c 2) ((n / 2 : Nat) : Int) (512 + ((n / 2 : Nat) : Int)) (xorS (padS s) (pl all (pt n)))).1) 2 = (writeS (dv c 2) ((n / 2 : Nat) : Int) (512 + ((n / 2 : Nat) : Int)) (xorS (padS s) (pl all (pt n)))).1 := dv_set_self (by omega) _
  match i, hi with
  | 0, _ =>
   rw [Cp.mir (by decide)] at hcp ⊢
   rw [g0, b0]
   by_cases hpn : p = n
   ·subst hpn; rw [read_write t0 (by omega) (by omega) hs, if_pos rfl]
   ·rw [read_write_other t0 (by omega) (by omega) hs p _ (by omega) (by omega)]; exact hcp
  | 1, _ =>
   rw [Cp.mir (by decide)] at hcp ⊢
   rw [g1, b1]
   by_cases hpn : p = n
   ·subst hpn; rw [read_write t1 (by omega) (by omega) hs, if_pos rfl]
   ·rw [read_write_other t1 (by omega) (by omega) hs p _ (by omega) (by omega)]; exact hcp
  | 2, _ =>
   rw [Cp.two] at hcp ⊢
   rw [g2]
   by_cases hpn : p = n / 2
   ·subst hpn; rw [read_write ht2 (by omega) (by omega) (by omega), if_pos rfl]
   ·rw [read_write_other ht2 (by omega) (by omega) (by omega) p _ (by omega) (by omega), b2]; exact hcp
 exact ⟨hmono, fun i p hi hik hp => hmono i p hi (ho i p hi hik hp)⟩
theorem ones_sw {mm k : Nat} (h16 : 16 ≤ mm) (h64 : mm ≤ 64) (h2 : mm % 2 = 0) (first : Nat) (s : ByteArray) : ∀ (m i : Nat) (a : List Dev) (all : List ByteArray), Ones a mm k → Part a mm all → first + i + m ≤ mm →
  Ones (streamWriteLoop m i a first s) mm k ∧ Part (streamWriteLoop m i a first s) mm (swAll m i all first s)
 | 0, _, _, _, ho, h, _ => ⟨ho, h⟩
 | m + 1, i, a, all, ho, h, hl => by
  obtain ⟨e, hb⟩ := h.write h16 h64 h2 (n := first + i) (by omega) (chunk_size s i)
  have hw := (ho.write h h16 h64 h2 (n := first + i) (by omega) (chunk_size s i)).2
  rw [swl_succ]
  have e1 : (first : Int) + (i : Int) = ((first + i : Nat) : Int) := by omega
  rw [e1, e]
  exact ones_sw h16 h64 h2 first s m (i + 1) _ _ hw hb (by omega)
def Holds (all : List ByteArray) (k : Nat) (s : ByteArray) : Prop := ∀ i : Nat, i < (s.size + 23) / 24 → pl all (k + i) = padS (chunk s i)
theorem join_chunks {all : List ByteArray} (k : Nat) (s : ByteArray) : ∀ (m j : Nat) (acc : ByteArray), (∀ i : Nat, j ≤ i → i < j + m → pl all (k + i) = padS (chunk s i)) → 24 * (j + m) < s.size + 24 →
  lst acc = (lst s).take (24 * j) ++ List.replicate (24 * j - s.size) 0 → lst (joinPl all m (k + j) acc) = (lst s).take (24 * (j + m)) ++ List.replicate (24 * (j + m) - s.size) 0
 | 0, j, acc, _, _, ha => ha
 | m + 1, j, acc, hp, hs, ha => by
  unfold joinPl
  rw [hp j (Nat.le_refl _) (by omega), show k + j + 1 = k + (j + 1) by omega]
  rw [join_chunks k s m (j + 1) (acc ++ padS (chunk s j)) (fun i h1 h2 => hp i (by omega) (by omega)) (by omega) (by
   rw [lst_append, ha, show 24 * j - s.size = 0 by omega, List.replicate_zero, List.append_nil]
   exact pad_chunk s j (by omega)), show j + 1 + m = j + (m + 1) by omega]
theorem Holds.join {all : List ByteArray} {k : Nat} {s : ByteArray} (h : Holds all k s) : (joinPl all ((s.size + 23) / 24) k .empty).extract 0 s.size = s := by
 have ht := join_chunks k s ((s.size + 23) / 24) 0 .empty (fun i _ hi => h i (by omega)) (by omega) (by simp [lst_empty])
 rw [show k + 0 = k from rfl] at ht
 apply lst_inj
 rw [lst_extract]
 unfold sub_
 rw [ht, Nat.zero_add, List.take_of_length_le (show (lst s).length ≤ 24 * ((s.size + 23) / 24) by rw [length_lst]; omega)]
 first | (rw [List.drop_zero, List.take_left' (length_lst s)]) | (rw [List.take_left' (length_lst s), List.drop_zero])
theorem Holds.read {a : List Dev} {m : Nat} {all : List ByteArray} {k : Nat} {s : ByteArray} (hh : Holds all k s) (h : Part a m all) (h16 : 16 ≤ m) (h64 : m ≤ 64) (h2 : m % 2 = 0) (hn : s.size ≤ 1536) (hm : k + (s.size + 23) / 24 ≤ m) :
  ((∀ i : Nat, k ≤ i → i < k + (s.size + 23) / 24 → (arrReadS a i).2.2 = 0) → streamReadS a k s.size = (s, 0)) ∧ ((∃ i : Nat, k ≤ i ∧ i < k + (s.size + 23) / 24 ∧ (arrReadS a i).2.2 ≠ 0) → streamReadS a k s.size = (.empty, 11)) := by
 obtain ⟨p1, p2⟩ := part_stream h h16 h64 h2 hn hm
 exact ⟨fun hr => by rw [p1 hr, hh.join], p2⟩
theorem holds_sw {all : List ByteArray} {first : Nat} {s : ByteArray} (hl : first + (s.size + 23) / 24 ≤ all.length) : Holds (swAll ((s.size + 23) / 24) 0 all first s) first s := by
 intro i hi
 rw [pl_sw first s _ 0 all _ (by omega), if_pos (by omega), show first + i - first = i by omega]
theorem Holds.sw {all : List ByteArray} {first k : Nat} {s t : ByteArray} (h : Holds all k t) (hl : first + (s.size + 23) / 24 ≤ all.length) (hd : k + (t.size + 23) / 24 ≤ first ∨ first + (s.size + 23) / 24 ≤ k) : Holds (swAll ((s.size + 23) / 24) 0 all first s) k t := by
 intro i hi
 rw [pl_sw first s _ 0 all _ (by omega), if_neg (by omega)]
 exact h i hi
theorem catText_size {c : Cat} (h : catFault c = 0) : (catText c).size = 192 := by
 obtain ⟨h1, h2, h3, h4⟩ := catFault_ok h
 have he := entsF_ok _ _ _ h4
 have b1 := flat_bound (fun b : Blk => twoB b.bytes) 2 c.blocks (fun x _ => by simp [twoB])
 have b2 := flat_bound entBytes 13 c.entries (fun x hx => ent_len (he x hx))
 have hl : (encCatS c).1.size ≤ 192 := by
  rw [enc_good h, size_bs]
  unfold catBytes
  simp only [List.length_cons, List.length_append]
  omega
 unfold catText
 rw [ByteArray.size_append, size_bs, List.length_replicate]
 omega
theorem catText_back {c : Cat} (h : catFault c = 0) : decCatS (catText c) = (c, 0) := dec_zeros h _
structure Arch (all : List ByteArray) (m : Nat) (c : Cat) (D : Nat → ByteArray) : Prop where
 ok : catFault c = 0
 cat : Holds all 0 (catText c)
 inside : nextAt 8 c.blocks ≤ m
 blk : ∀ (k : Nat) (hk : k < c.blocks.length), (D k).size ≤ 600 ∧ ∃ f : Nat, 8 ≤ f ∧ c.blocks[k] = ⟨f, (packS (D k)).1.size⟩ ∧ f + ((packS (D k)).1.size + 23) / 24 ≤ m ∧ (f : Int) + secs (packS (D k)).1.size ≤ nextAt 8 c.blocks ∧ Holds all f (packS (D k)).1
 ent : ∀ x ∈ c.entries, x.at_ + x.bytes ≤ (D x.block.toNat).size
theorem Arch.openS {a : List Dev} {m : Nat} {all : List ByteArray} {c : Cat} {D : Nat → ByteArray} (ha : Arch all m c D) (h : Part a m all) (h16 : 16 ≤ m) (h64 : m ≤ 64) (h2 : m % 2 = 0) (hr : ∀ i : Nat, i < 8 → (arrReadS a i).2.2 = 0) : Go.Proofs.YtgjijcgkmofaaaaGreatDoor.openS a = (c, 0) := by
 have hz := catText_size ha.ok
 have := (ha.cat.read h h16 h64 h2 (by omega) (by omega)).1 (fun i _ hi => hr i (by omega))
 rw [hz] at this
 have e : streamReadS a 0 192 = (catText c, 0) := this
 unfold Go.Proofs.YtgjijcgkmofaaaaGreatDoor.openS
 rw [e, if_pos rfl, catText_back ha.ok]
def newE (nb : Nat) : Nat → List Fil → List Ent
 | _, [] => []
 | p, f :: l => ⟨f.name, nb, p, f.data.size⟩ :: newE nb (p + f.data.size) l
theorem newE_cons (nb p : Nat) (f : Fil) (l : List Fil) : newE nb p (f :: l) = ⟨f.name, nb, p, f.data.size⟩ :: newE nb (p + f.data.size) l := rfl
theorem addE_mem {nb : Nat} : ∀ (l : List Fil) (es : List Ent) (p : Nat) (es' : List Ent), addE nb es p l = some es' → ∀ x, x ∈ es' ↔ x ∈ es ∨ x ∈ newE nb p l
 | [], es, p, es', h, x => by
  obtain rfl : es = es' := by simpa [addE] using h
  simp [newE]
 | f :: l, es, p, es', h, x => by
  unfold addE at h
  split at h
  ·cases h
  ·rw [addE_mem l _ _ es' h x, mem_insE]
   rw [newE_cons, List.mem_cons]
   constructor
   ·rintro ((h | h) | h)
    ·exact .inr (.inl h)
    ·exact .inl h
    ·exact .inr (.inr h)
   ·rintro (h | h | h)
    ·exact .inl (.inr h)
    ·exact .inl (.inl h)
    ·exact .inr h
theorem newE_data {nb : Nat} : ∀ (l : List Fil) (p : Nat) (x : Ent), x ∈ newE nb p l → ∃ f ∈ l, x.name = f.name ∧ x.block = nb ∧ x.bytes = f.data.size ∧ ∃ q : Nat, x.at_ = ((p + q : Nat) : Int) ∧ q + f.data.size ≤ fileBytes l ∧ (((l.flatMap fun g => lst g.data).drop q).take f.data.size = lst f.data)
 | [], _, x, h => by simp [newE] at h
 | g :: l, p, x, h => by
  rw [newE_cons] at h
  rcases List.mem_cons.1 h with rfl | h
  ·refine ⟨g, List.mem_cons_self, rfl, rfl, rfl, 0, rfl, by rw [fileBytes_cons]; omega, ?_⟩
   rw [List.flatMap_cons, List.drop_zero, List.take_left' (length_lst g.data)]
  ·obtain ⟨f, hf, e1, e2, e3, q, e4, e5, e6⟩ := newE_data l _ x h
   refine ⟨f, List.mem_cons_of_mem _ hf, e1, e2, e3, g.data.size + q, by rw [e4]; omega, by rw [fileBytes_cons]; omega, ?_⟩
   rw [List.flatMap_cons, ← List.drop_drop, List.drop_left' (length_lst g.data), e6]
def PR (a : List Dev) (n : Int) : Prop := (arrReadS a n).2.2 = 0 → (arrReadS a (partner n)).2.2 = 0 → (parS a n).2 = 0 → (parS a n).1 = xorS (arrReadS a n).1 (arrReadS a (partner n)).1
theorem par_pr {a : List Dev} {n : Int} (h : PR a n) (h0 : (arrReadS a n).2.2 = 0) (h1 : (arrReadS a (partner n)).2.2 = 0) : parRightS a n = (decide ((parS a n).2 = 0), true) := by
 unfold parRightS
 rw [if_neg (by omega)]
 by_cases hc : (parS a n).2 = 0
 ·rw [h h0 h1 hc]; simp
 ·simp [hc]
theorem Part.told0 {a : List Dev} {m : Nat} {all : List ByteArray} (h : Part a m all) (h16 : 16 ≤ m) (h64 : m ≤ 64) (h2 : m % 2 = 0) {n : Nat} (hn : n < m) (hc : (arrReadS a n).2.2 = 0) : (arrReadS a n).1 = pl all n := by
 rcases h.read h16 h64 h2 hn with ⟨_, e⟩ | ⟨_, _, e⟩ | ⟨_, _, ⟨_, e⟩ | ⟨_, e⟩⟩
 ·rw [e]
 ·rw [e]
 ·rw [e] at hc; exact absurd hc (by show ¬ (11 : Int) = 0; decide)
 ·rw [e]
theorem parS_nat (a : List Dev) (n : Nat) : parS a n = readS (dv a 2) ((n / 2 : Nat) : Int) (512 + ((n / 2 : Nat) : Int)) := by
 unfold parS
 rw [show ((n : Int) / 2) = ((n / 2 : Nat) : Int) by omega]
theorem Part.pr {a : List Dev} {m : Nat} {all : List ByteArray} (h : Part a m all) (h16 : 16 ≤ m) (h64 : m ≤ 64) (h2 : m % 2 = 0) {n : Nat} (hn : n < m) : PR a n := by
 intro h0 h1 hp
 have hm := pt_lt hn h2
 rw [partner_pt] at h1 ⊢
 rw [parS_nat] at hp ⊢
 rw [h.told0 h16 h64 h2 hn h0, h.told0 h16 h64 h2 hm h1, h.r2 (n / 2) (by omega) hp, pp_eq]
theorem nextAt_snoc : ∀ (l : List Blk) (p : Int) (b : Blk), nextAt p (l ++ [b]) = nextAt p l + secs b.bytes
 | [], p, b => rfl
 | x :: l, p, b => by
  show nextAt (p + secs x.bytes) (l ++ [b]) = nextAt (p + secs x.bytes) l + secs b.bytes
  exact nextAt_snoc l _ b
theorem catFault_blk {c : Cat} (h : catFault c = 0) : 8 ≤ nextAt 8 c.blocks := by
 obtain ⟨_, _, f3, _⟩ := catFault_ok h
 exact nextAt_ge _ _ (fun b hb => (blocksF_range _ _ (by decide) f3 b hb).1)
theorem snoc_getL {l : List Blk} {b : Blk} {k : Nat} (hk : k < (l ++ [b]).length) (h : k < l.length) : (l ++ [b])[k] = l[k] := List.getElem_append_left h
theorem snoc_getR {l : List Blk} {b : Blk} {k : Nat} (hk : k < (l ++ [b]).length) (h : k = l.length) : (l ++ [b])[k] = b := by subst h; simp
def addG (a : List Dev) (all : List ByteArray) (l : List Fil) : List ByteArray :=
 match addE (openS a).1.blocks.length (openS a).1.entries 0 l with
 | none => all
 | some es =>
  let s := (packS (dataS l)).1
  swAll 8 0 (swAll ((s.size + 23) / 24) 0 all (nextAt 8 (openS a).1.blocks).toNat s) 0 (catText (addCat (openS a).1 es s))
def addD (nb : Nat) (D : Nat → ByteArray) (l : List Fil) : Nat → ByteArray := fun i => if i = nb then dataS l else D i
theorem Arch.add {a : List Dev} {m k0 : Nat} {all : List ByteArray} {c : Cat} {D : Nat → ByteArray} (ha : Arch all m c D) (h : Part a m all) (ho : Ones a m k0) (h16 : 16 ≤ m) (h64 : m ≤ 64) (h2 : m % 2 = 0) {l : List Fil} (hc : (addS a l).2 = 0) :
  ∃ es, addE c.blocks.length c.entries 0 l = some es ∧ filesS l = 0 ∧ Part (addS a l).1 m (addG a all l) ∧ Ones (addS a l).1 m k0 ∧ Arch (addG a all l) m (addCat c es (packS (dataS l)).1) (addD c.blocks.length D l) := by
 have hop := ha.openS h h16 h64 h2 (fun i hi => ho.code h h16 h64 h2 (by omega))
 have hge := catFault_blk ha.ok
 have hin := ha.inside
 unfold addG
 unfold addS at hc ⊢
 rw [hop] at hc ⊢
 dsimp only at hc ⊢
 rw [if_neg (by decide)] at hc ⊢
 by_cases hf : filesS l = 0
 ·rw [if_neg (by simpa using hf)] at hc ⊢
  cases hae : addE c.blocks.length c.entries 0 l with
  | none => rw [hae] at hc; exact absurd hc (by show ¬ (7 : Int) = 0; decide)
  | some es =>
   rw [hae] at hc
   dsimp only at hc ⊢
   by_cases hfull : 10 < es.length ∨ c.blocks.length = 10 ∨ ((dv a 0).sec.length : Int) < nextAt 8 c.blocks + secs (packS (dataS l)).1.size
   ·rw [if_pos hfull] at hc; exact absurd hc (by show ¬ (8 : Int) = 0; decide)
   ·rw [if_neg hfull] at hc ⊢
    have hn1 : ¬ 10 < es.length := fun e => hfull (.inl e)
    have hn2 : c.blocks.length ≠ 10 := fun e => hfull (.inr (.inl e))
    have hn3 : ¬ ((dv a 0).sec.length : Int) < nextAt 8 c.blocks + secs (packS (dataS l)).1.size := fun e => hfull (.inr (.inr e))
    have hok := addCat_ok (n := (dv a 0).sec.length) ha.ok hf hae hn1 hn2 hn3 (by rw [h.good.l0]; exact h64)
    obtain ⟨hd1, hd2, hd3⟩ := data_ok hf
    rw [h.good.l0] at hn3
    obtain ⟨s, hs⟩ : ∃ s, s = (packS (dataS l)).1 := ⟨_, rfl⟩
    rw [← hs] at hc hn3 hok hd3 ⊢
    obtain ⟨f, hfe⟩ : ∃ f : Nat, nextAt 8 c.blocks = (f : Int) := ⟨(nextAt 8 c.blocks).toNat, by omega⟩
    have hfn : (nextAt 8 c.blocks).toNat = f := by omega
    have hfit : f + (s.size + 23) / 24 ≤ m := by unfold secs at hn3; omega
    have hct := catText_size hok
    have hse : (s.size + 23) / 24 ≤ 26 := by omega
    have hw1 := sw_good (a := a) (first := (f : Int)) (s := s) (fault_none (h.good.may h16 h2) ⟨by omega, by omega⟩ (by have : (dv a 0).sec.length = m := h.good.l0; omega))
    obtain ⟨o1, p1⟩ := ones_sw h16 h64 h2 f s ((s.size + 23) / 24) 0 a all ho h (by omega)
    rw [hfe] at hc ⊢
    rw [Int.toNat_natCast] 
    rw [hw1] at hc ⊢
    dsimp only at hc ⊢
    obtain ⟨x, hx⟩ : ∃ x, x = streamWriteLoop ((s.size + 23) / 24) 0 a (f : Int) s := ⟨_, rfl⟩
    rw [← hx] at hc o1 p1 ⊢
    obtain ⟨al1, hal1⟩ : ∃ al, al = swAll ((s.size + 23) / 24) 0 all f s := ⟨_, rfl⟩
    rw [← hal1] at p1 ⊢
    have hl1 : al1.length = m := p1.len
    have hw2 := sw_good (a := x) (first := ((0 : Nat) : Int)) (s := catText (addCat c es s)) (fault_none (p1.good.may h16 h2) ⟨by omega, by omega⟩ (by have : (dv x 0).sec.length = m := p1.good.l0; omega))
    have e8 : ((catText (addCat c es s)).size + 23) / 24 = 8 := by rw [hct]
    rw [e8] at hw2
    obtain ⟨o2, p2⟩ := ones_sw h16 h64 h2 0 (catText (addCat c es s)) 8 0 x al1 o1 p1 (by omega)
    have hw2' : streamWriteS x 0 (catText (addCat c es s)) = (streamWriteLoop 8 0 x ((0 : Nat) : Int) (catText (addCat c es s)), 0) := hw2
    rw [hw2']
    have hd0 := holds_sw (all := all) (first := f) (s := s) (by rw [h.len]; exact hfit)
    rw [← hal1] at hd0
    have hcat := holds_sw (all := al1) (first := 0) (s := catText (addCat c es s)) (by rw [e8, hl1]; omega)
    rw [e8] at hcat
    have hkeep : ∀ (k : Nat) (t : ByteArray), 8 ≤ k → Holds al1 k t → Holds (swAll 8 0 al1 0 (catText (addCat c es s))) k t := by
     intro k t hk ht
     have := ht.sw (first := 0) (s := catText (addCat c es s)) (by rw [e8, hl1]; omega) (.inr (by rw [e8]; omega))
     rwa [e8] at this
    have hnx : nextAt 8 (addCat c es s).blocks = (f : Int) + secs s.size := by
     show nextAt 8 (c.blocks ++ [⟨nextAt 8 c.blocks, s.size⟩]) = _
     rw [nextAt_snoc, hfe]
    refine ⟨es, rfl, hf, p2, o2, ⟨hok, hcat, by rw [hnx]; unfold secs; omega, fun k hk => ?_, fun y hy => ?_⟩⟩
    ·have hk' : k < (c.blocks ++ [(⟨nextAt 8 c.blocks, s.size⟩ : Blk)]).length := hk
     rw [List.length_append, List.length_singleton] at hk'
     have hget : (addCat c es s).blocks[k] = (c.blocks ++ [(⟨nextAt 8 c.blocks, s.size⟩ : Blk)])[k]'hk := rfl
     rw [hget, hnx]
     by_cases hkn : k = c.blocks.length
     ·have ed : addD c.blocks.length D l k = dataS l := by unfold addD; rw [if_pos hkn]
      rw [ed, ← hs]
      refine ⟨hd1, f, by omega, ?_, hfit, by omega, hkeep f s (by omega) hd0⟩
      exact (snoc_getR _ hkn).trans (by rw [hfe])
     ·have ed : addD c.blocks.length D l k = D k := by unfold addD; rw [if_neg hkn]
      rw [ed]
      obtain ⟨b1, g, b2, b3, b4, b5, b6⟩ := ha.blk k (by omega)
      refine ⟨b1, g, b2, (snoc_getL _ (by omega)).trans b3, b4, by unfold secs at b5 ⊢; omega, hkeep g _ b2 ?_⟩
      rw [hal1]
      exact b6.sw (by rw [h.len]; exact hfit) (.inl (by unfold secs at b5; omega))
    ·have hy' : y ∈ es := hy
     rcases (addE_mem l c.entries 0 es hae y).1 hy' with hy1 | hy1
     ·have := ha.ent y hy1
      obtain ⟨_, _, _, f4⟩ := catFault_ok ha.ok
      have hb := entBad_false (entsF_ok _ _ _ f4 y hy1)
      have ed : addD c.blocks.length D l y.block.toNat = D y.block.toNat := by unfold addD; rw [if_neg (by omega)]
      rw [ed]
      exact this
     ·obtain ⟨g, hg, e1, e2, e3, q, e4, e5, e6⟩ := newE_data l 0 y hy1
      have ed : addD c.blocks.length D l y.block.toNat = dataS l := by unfold addD; rw [if_pos (by omega)]
      rw [ed, dataS_size]
      omega
 ·rw [if_pos (by simpa using hf)] at hc
  exact absurd hc hf
def Sct (d : Dev) (n : Nat) (no : Int) (ex : ByteArray) (t : Prop) : Prop := d.lost.getD n false = true ∨ Sound d n no ex ∨
 (t ∧ d.lost.getD n false = false ∧ ∃ p b : Int, 0 ≤ p ∧ p ≤ 29 ∧ 0 ≤ b ∧ b ≤ 255 ∧ d.sec.getD n .empty = turnB (encodeS no ex).1 p b)
theorem Sct.mono {d : Dev} {n : Nat} {no : Int} {ex : ByteArray} {t t' : Prop} (h : Sct d n no ex t) (ht : t → t') : Sct d n no ex t' := by
 rcases h with h | h | ⟨h1, h2⟩
 ·exact .inl h
 ·exact .inr (.inl h)
 ·exact .inr (.inr ⟨ht h1, h2⟩)
theorem Sct.read {d : Dev} {n : Nat} {no : Int} {ex : ByteArray} {t : Prop} (h : Sct d n no ex t) (ht : touchCode d n = 0) (n0 : 0 ≤ no) (n1 : no ≤ 65535) (hz : ex.size = 24) : (readS d n no = (ex, 0) ∧ Sound d n no ex) ∨ (readS d n no).2 ≠ 0 := by
 rcases h with h | h | ⟨_, hlo, p, b, p0, p1, b0, b1, h⟩
 ·right
  rw [read_eq _ ht, show ((n : Int)).toNat = n from rfl, h, if_pos rfl]
  show (11 : Int) ≠ 0
  decide
 ·left
  exact ⟨h.read ht n0 n1 hz, h⟩
 ·by_cases hb : b = 0
  ·left
   subst hb
   rw [turnB_zero _ _ p0 (by rw [encodeS_size n0 n1 (by omega)]; omega)] at h
   have hs : Sound d n no ex := ⟨h, hlo⟩
   exact ⟨hs.read ht n0 n1 hz, hs⟩
  ·right
   rw [read_eq _ ht, show ((n : Int)).toNat = n from rfl, hlo, if_neg (by decide), h]
   unfold turnB
   rw [decode_spoilt no no ex n0 n1 (by omega) p.toNat (by omega) _ (by
    intro he
    have := byte_toNat ((((at_ (encodeS no ex).1 p.toNat).toNat : Int) + b) % 256) (by omega) (by omega)
    rw [he] at this
    have hb2 := u8_bd (at_ (encodeS no ex).1 p.toNat)
    omega)]
   show (10 : Int) ≠ 0
   decide
theorem Sct.lose {d : Dev} {k n : Nat} {no : Int} {ex : ByteArray} {t : Prop} (h : Sct d k no ex t) (ht : touchCode d n = 0) : Sct (loseS d n) k no ex t := by
 obtain ⟨hm, h0, hl⟩ := touch_iff.1 ht
 obtain ⟨m1, m2, m3, _⟩ := devMay_len hm
 rw [loseS_ok ht]
 by_cases he : n = k
 ·subst he
  left
  exact getD_set_self _ _ _ _ (by show n < d.lost.length; omega)
 ·have e1 : (d.lost.set ((n : Int)).toNat true).getD k false = d.lost.getD k false := getD_set_ne _ _ _ _ _ (by simpa using he)
  rcases h with h | h | ⟨h1, h2, h3⟩
  ·left; exact e1.trans h
  ·right; left; exact ⟨h.1, e1.trans h.2⟩
  ·right; right; exact ⟨h1, e1.trans h2, h3⟩
theorem Sct.turn {d : Dev} {k n : Nat} {no : Int} {ex : ByteArray} {t t' : Prop} (h : Sct d k no ex t) (ht : touchCode d n = 0) {p b : Int} (hp : 0 ≤ p ∧ p ≤ 29) (hb : 0 ≤ b ∧ b ≤ 255) (hT : n = k → ¬ t ∧ t') (hmo : t → t') : Sct (turnS d n p b).1 k no ex t' := by
 obtain ⟨hm, h0, hl⟩ := touch_iff.1 ht
 rw [turnS_ok ht hp hb]
 by_cases he : n = k
 ·subst he
  rcases h with h | h2 | ⟨h1, _⟩
  ·left; exact h
  ·right; right
   refine ⟨(hT rfl).2, h2.2, p, b, hp.1, hp.2, hb.1, hb.2, ?_⟩
   show (d.sec.set ((n : Int)).toNat _).getD n .empty = _
   rw [show ((n : Int)).toNat = n from rfl, getD_set_self _ _ _ _ (by omega), h2.1]
  ·exact absurd h1 (hT rfl).1
 ·have e1 : (d.sec.set ((n : Int)).toNat (turnB (d.sec.getD ((n : Int)).toNat .empty) p b)).getD k .empty = d.sec.getD k .empty := getD_set_ne _ _ _ _ _ (by simpa using he)
  rcases h with h | h2 | ⟨h1, h2, p', b', q0, q1, q2, q3, q4⟩
  ·left; exact h
  ·right; left; exact ⟨e1.trans h2.1, h2.2⟩
  ·right; right; exact ⟨hmo h1, h2, p', b', q0, q1, q2, q3, e1.trans q4⟩
theorem Sct.write {d : Dev} {k n : Nat} {no no' : Int} {ex' s : ByteArray} {t : Prop} (h : n ≠ k → Sct d k no' ex' t) (ht : touchCode d n = 0) (h0 : 0 ≤ no) (h1 : no ≤ 65535) (hs : s.size ≤ 24) (he : n = k → no' = no ∧ ex' = padS s) : Sct (writeS d n no s).1 k no' ex' t := by
 by_cases hk : n = k
 ·obtain ⟨e1, e2⟩ := he hk
  rw [e1, e2, ← hk]
  exact .inr (.inl (Sound.write ht h0 h1 hs))
 ·have hw := h hk
  rcases hw with hw | hw | ⟨w1, w2, p, b, q0, q1, q2, q3, q4⟩
  ·left
   rw [writeS_ok ht h0 h1 hs]
   exact (getD_set_ne _ _ _ _ _ (by simpa using hk)).trans hw
  ·right; left; exact hw.write_other ht h0 h1 hs hk
  ·right; right
   rw [writeS_ok ht h0 h1 hs]
   exact ⟨w1, (getD_set_ne _ _ _ _ _ (by simpa using hk)).trans w2, p, b, q0, q1, q2, q3, (getD_set_ne _ _ _ _ _ (by simpa using hk)).trans q4⟩
def szOf (m k : Nat) : Nat := if k = 2 then m / 2 else m
structure AInv (a : List Dev) (m : Nat) (all : List ByteArray) (T : Nat → Nat → Prop) : Prop where
 good : Good a m
 len : all.length = m
 size : ∀ n : Nat, n < m → (pl all n).size = 24
 sct : ∀ k, k < 3 → ∀ n, n < szOf m k → Sct (dv a k) n (noOf k n) (exOf all k n) (T k n)
theorem noOf_range {m k n : Nat} (h64 : m ≤ 64) (hn : n < szOf m k) : 0 ≤ noOf k n ∧ noOf k n ≤ 65535 := by
 unfold noOf; unfold szOf at hn
 split at hn
 ·rename_i h; rw [if_pos h]; omega
 ·rename_i h; rw [if_neg h]; omega
theorem exOf_size {all : List ByteArray} {m k n : Nat} (hs : ∀ n : Nat, n < m → (pl all n).size = 24) (hn : n < szOf m k) : (exOf all k n).size = 24 := by
 unfold exOf; unfold szOf at hn
 split at hn
 ·rename_i h; rw [if_pos h]; exact pp_size hs hn
 ·rename_i h; rw [if_neg h]; exact hs n hn
theorem Good.may_ {a : List Dev} {m k : Nat} (h : Good a m) (hk : k < 3) : devMay (dv a k) = true ∧ (dv a k).sec.length = szOf m k := by
 match k, hk with
 | 0, _ => exact ⟨h.m0, h.l0⟩
 | 1, _ => exact ⟨h.m1, h.l1⟩
 | 2, _ => exact ⟨h.m2, h.l2⟩
theorem Good.touch_ {a : List Dev} {m k n : Nat} (h : Good a m) (hk : k < 3) (hn : n < szOf m k) : touchCode (dv a k) n = 0 := by
 obtain ⟨h1, h2⟩ := h.may_ hk
 exact touch_iff.2 ⟨h1, by omega, by omega⟩
theorem AInv.read {a : List Dev} {m : Nat} {all : List ByteArray} {T : Nat → Nat → Prop} (h : AInv a m all T) (h64 : m ≤ 64) {k n : Nat} (hk : k < 3) (hn : n < szOf m k) :
  (readS (dv a k) n (noOf k n) = (exOf all k n, 0) ∧ Sound (dv a k) n (noOf k n) (exOf all k n)) ∨ (readS (dv a k) n (noOf k n)).2 ≠ 0 :=
 (h.sct k hk n hn).read (h.good.touch_ hk hn) (noOf_range h64 hn).1 (noOf_range h64 hn).2 (exOf_size h.size hn)
theorem AInv.part {a : List Dev} {m : Nat} {all : List ByteArray} {T : Nat → Nat → Prop} (h : AInv a m all T) (h64 : m ≤ 64) : Part a m all := by
 refine ⟨h.good, h.len, h.size, fun n hn hr => ?_, fun n hn hr => ?_, fun n hn hr => ?_⟩
 ·rcases h.read h64 (k := 0) (by decide) (n := n) hn with ⟨e, _⟩ | e
  ·have e' : readS (dv a 0) n n = (pl all n, 0) := e
   rw [e']
  ·exact absurd hr e
 ·rcases h.read h64 (k := 1) (by decide) (n := n) hn with ⟨e, _⟩ | e
  ·have e' : readS (dv a 1) n n = (pl all n, 0) := e
   rw [e']
  ·exact absurd hr e
 ·rcases h.read h64 (k := 2) (by decide) (n := n) hn with ⟨e, _⟩ | e
  ·have e' : readS (dv a 2) n (512 + n : Int) = (pp all n, 0) := e
   rw [e']
  ·exact absurd hr e
theorem AInv.mono {a : List Dev} {m : Nat} {all : List ByteArray} {T T' : Nat → Nat → Prop} (h : AInv a m all T) (ht : ∀ k n, T k n → T' k n) : AInv a m all T' :=
 ⟨h.good, h.len, h.size, fun k hk n hn => (h.sct k hk n hn).mono (ht k n)⟩
theorem AInv.of_full {a : List Dev} {m : Nat} {all : List ByteArray} (h : Full a m all) : AInv a m all (fun _ _ => False) := by
 refine ⟨h.good, h.len, h.size, fun k hk n hn => ?_⟩
 match k, hk with
 | 0, _ => exact .inr (.inl (h.s0 n hn))
 | 1, _ => exact .inr (.inl (h.s1 n hn))
 | 2, _ => exact .inr (.inl (h.s2 n hn))
theorem AInv.put {a : List Dev} {m : Nat} {all : List ByteArray} {T T' : Nat → Nat → Prop} (h : AInv a m all T) {k : Nat} (hk : k < 3) {d : Dev} (hd : devMay d = true) (hl : d.sec.length = szOf m k)
  (ho : ∀ j n, j ≠ k → T j n → T' j n) (hs : ∀ n, n < szOf m k → Sct d n (noOf k n) (exOf all k n) (T' k n)) : AInv (a.set k d) m all T' := by
 have h3 := h.good.len
 refine ⟨h.good.dev hk hd (by rw [hl, (h.good.may_ hk).2]), h.len, h.size, fun j hj n hn => ?_⟩
 rw [dv_set a (by omega)]
 by_cases hjk : j = k
 ·subst hjk; rw [if_pos rfl]; exact hs n hn
 ·rw [if_neg hjk]; exact (h.sct j hj n hn).mono (ho j n hjk)
theorem AInv.lose {a : List Dev} {m : Nat} {all : List ByteArray} {T : Nat → Nat → Prop} (h : AInv a m all T) {k n : Nat} (hk : k < 3) (hn : n < szOf m k) : AInv (a.set k (loseS (dv a k) n)) m all T := by
 have ht := h.good.touch_ hk hn
 exact h.put hk (lose_may ht) (by rw [lose_len ht, (h.good.may_ hk).2]) (fun _ _ _ h => h) (fun i hi => (h.sct k hk i hi).lose ht)
theorem AInv.turn {a : List Dev} {m : Nat} {all : List ByteArray} {T T' : Nat → Nat → Prop} (h : AInv a m all T) {k n : Nat} (hk : k < 3) (hn : n < szOf m k) {p b : Int} (hp : 0 ≤ p ∧ p ≤ 29) (hb : 0 ≤ b ∧ b ≤ 255)
  (hT : ¬ T k n) (hT' : T' k n) (hmo : ∀ j i, T j i → T' j i) : AInv (a.set k (turnS (dv a k) n p b).1) m all T' := by
 have ht := h.good.touch_ hk hn
 have hm := turn_may ht hp hb
 exact h.put hk hm.1 (by rw [hm.2, (h.good.may_ hk).2]) (fun j i _ => hmo j i) (fun i hi => (h.sct k hk i hi).turn ht hp hb (fun e => by subst e; exact ⟨hT, hT'⟩) (hmo k i))
theorem AInv.replace {a : List Dev} {m : Nat} {all : List ByteArray} {T : Nat → Nat → Prop} (h : AInv a m all T) (h16 : 16 ≤ m) (h64 : m ≤ 64) {k : Nat} (hk : k < 3) : AInv (a.set k (lostDev (devAt m k))) m all T := by
 have hdm := devAt_may h16 h64 k
 have hlen := h.good.devAt_len hk
 have hli := lost_inv hdm (noOf k) (exOf all k) []
 refine h.put hk hli.1 (by rw [hli.2.1, hlen, (h.good.may_ hk).2]) (fun _ _ _ h => h) (fun i hi => ?_)
 rcases hli.2.2 i (by rw [hlen, (h.good.may_ hk).2]; exact hi) with h1 | ⟨_, h1⟩ | ⟨h1, _⟩
 ·exact .inl h1
 ·exact .inr (.inl h1)
 ·exact absurd h1 (by simp)
theorem AInv.write {a : List Dev} {m k0 : Nat} {all : List ByteArray} {T : Nat → Nat → Prop} (h : AInv a m all T) (ho : Ones a m k0) (h16 : 16 ≤ m) (h64 : m ≤ 64) (h2 : m % 2 = 0) {n : Nat} (hn : n < m) {s : ByteArray} (hs : s.size ≤ 24) : AInv (arrWrite3 a n s) m (all.set n (padS s)) T := by
 have hpa := h.part h64
 have hpw := (hpa.write h16 h64 h2 hn hs).2
 have hp := pt_lt hn h2
 have hpf := pt_facts n
 have h3 := h.good.len
 have hln := h.len
 refine ⟨hpw.good, hpw.len, hpw.size, ?_⟩
 have hw : arrWrite3 a n s = parityS (bothS a n s) n := by
  have e : arrWrite3 a n s = parityS (bothS (savedS a n) n s) n := rfl
  rw [e, ho.saved hpa h16 h64 h2 hn]
 rw [hw]
 obtain ⟨b0, b1, b2, b3⟩ := bothS_dv h.good.len (n : Int) s
 obtain ⟨t0, t1⟩ := h.good.touch (n := (n : Int)) (by omega) (by omega)
 have t2 := h.good.touch2 (n := n / 2) (by omega)
 obtain ⟨c, hc⟩ : ∃ c, c = bothS a n s := ⟨_, rfl⟩
 rw [← hc] at b0 b1 b2 b3 ⊢
 have hq : ((n : Int) / 2) = ((n / 2 : Nat) : Int) := by omega
 have ht2 : touchCode (dv c 2) ((n / 2 : Nat) : Int) = 0 := by rw [b2]; exact t2
 have hmn : mirrorS c n = (padS s, 1) := by
  unfold mirrorS
  rw [b0, read_write t0 (by omega) (by omega) hs, if_pos rfl, if_pos rfl]
 have hmp : mirrorS c (pt n : Nat) = mirrorS a (pt n : Nat) := by
  unfold mirrorS
  rw [b0, b1, read_write_other t0 (by omega) (by omega) hs _ _ (by omega) (by omega), read_write_other t1 (by omega) (by omega) hs _ _ (by omega) (by omega)]
 have hr : (readS (dv a 0) (pt n : Nat) (pt n : Nat)).2 = 0 ∨ (readS (dv a 1) (pt n : Nat) (pt n : Nat)).2 = 0 := by
  by_cases hk : k0 = 0
  ·exact .inr ((Cp.mir (by decide)).1 (ho 1 _ (by decide) (by omega) (by rw [if_neg (by decide)]; exact hp)))
  ·exact .inl ((Cp.mir (by decide)).1 (ho 0 _ (by decide) (by omega) (by rw [if_neg (by decide)]; exact hp)))
 have hm0 := hpa.mirror_ok hp hr
 have hm1 : (mirrorS a (pt n : Nat)).1 = pl all (pt n) := by
  rcases hpa.mirror hp with ⟨_, e⟩ | ⟨_, _, e⟩ | ⟨_, _, e⟩
  ·rw [e]
  ·rw [e]
  ·rw [e] at hm0; exact absurd rfl hm0
 have hx : (xorS (padS s) (pl all (pt n))).size = 24 := by
  have := padS_size hs
  rw [xorS_size (by rw [this, h.size _ hp]), this]
 unfold parityS
 rw [hmn, partner_pt, hmp, if_pos ⟨by show ¬ (1 : Int) = 0; decide, hm0⟩]
 unfold writeP
 dsimp only
 rw [hq, hm1]
 have g0 : dv (c.set 2 (writeS (dv c 2) ((n / 2 : Nat) : Int) (512 + ((n / 2 : Nat) : Int)) (xorS (padS s) (pl all (pt n)))).1) 0 = dv c 0 := dv_set_ne _ (by decide) _
 have g1 : dv (c.set 2 (writeS (dv c 2) ((n / 2 : Nat) : Int) (512 + ((n / 2 : Nat) : Int)) (xorS (padS s) (pl all (pt n)))).1) 1 = dv c 1 := dv_set_ne _ (by decide) _
 have g2 : dv (c.set 2 (writeS (dv c 2) ((n / 2 : Nat) : Int) (512 + ((n / 2 : Nat) : Int)) (xorS (padS s) (pl all (pt n)))).1) 2 = (writeS (dv c 2) ((n / 2 : Nat) : Int) (512 + ((n / 2 : Nat) : Int)) (xorS (padS s) (pl all (pt n)))).1 := dv_set_self (by omega) _
 have mir : ∀ (i : Nat), i < 2 → touchCode (dv a i) n = 0 → ∀ p, p < m → Sct (writeS (dv a i) n n s).1 p (noOf i p) (exOf (all.set n (padS s)) i p) (T i p) := by
  intro i hi ht p hpm
  have e1 : noOf i p = (p : Int) := by unfold noOf; rw [if_neg (by omega)]
  have e2 : exOf (all.set n (padS s)) i p = pl (all.set n (padS s)) p := by unfold exOf; rw [if_neg (by omega)]
  have hsz : szOf m i = m := by unfold szOf; rw [if_neg (by omega)]
  refine Sct.write (fun hne => ?_) ht (by omega) (by omega) hs (fun e => ?_)
  ·have := h.sct i (by omega) p (by rw [hsz]; exact hpm)
   have e3 : exOf all i p = pl all p := by unfold exOf; rw [if_neg (by omega)]
   rw [e2, pl_set_ne _ hne, ← e3]
   exact this
  ·subst e
   exact ⟨e1, by rw [e2, pl_set_self (by omega)]⟩
 intro k hk p hpk
 match k, hk with
 | 0, _ => rw [g0, b0]; exact mir 0 (by decide) t0 p hpk
 | 1, _ => rw [g1, b1]; exact mir 1 (by decide) t1 p hpk
 | 2, _ =>
  have hp2 : p < m / 2 := hpk
  rw [g2]
  refine Sct.write (fun hne => ?_) ht2 (by omega) (by omega) (by omega) (fun e => ?_)
  ·rw [b2]
   have := h.sct 2 (by decide) p hpk
   have e3 : exOf (all.set n (padS s)) 2 p = exOf all 2 p := by
    show pp (all.set n (padS s)) p = pp all p
    exact pp_set_other _ hne _
   rw [e3]
   exact this
  ·subst e
   refine ⟨rfl, ?_⟩
   show pp (all.set n (padS s)) (n / 2) = _
   rw [padS_full hx, pp_eq, pl_set_self (by omega), pl_set_ne _ (fun e => hpf.1 e.symm)]
theorem ainv_sw {mm k : Nat} (h16 : 16 ≤ mm) (h64 : mm ≤ 64) (h2 : mm % 2 = 0) {T : Nat → Nat → Prop} (first : Nat) (s : ByteArray) : ∀ (m i : Nat) (a : List Dev) (all : List ByteArray), Ones a mm k → AInv a mm all T → first + i + m ≤ mm →
  Ones (streamWriteLoop m i a first s) mm k ∧ AInv (streamWriteLoop m i a first s) mm (swAll m i all first s) T
 | 0, _, _, _, ho, h, _ => ⟨ho, h⟩
 | m + 1, i, a, all, ho, h, hl => by
  have hpa := h.part h64
  obtain ⟨e, _⟩ := hpa.write h16 h64 h2 (n := first + i) (by omega) (chunk_size s i)
  have hb := h.write ho h16 h64 h2 (n := first + i) (by omega) (chunk_size s i)
  have hw := (ho.write hpa h16 h64 h2 (n := first + i) (by omega) (chunk_size s i)).2
  rw [swl_succ]
  have e1 : (first : Int) + (i : Int) = ((first + i : Nat) : Int) := by omega
  rw [e1, e]
  exact ainv_sw h16 h64 h2 first s m (i + 1) _ _ hw hb (by omega)
theorem AInv.add {a : List Dev} {m k0 : Nat} {all : List ByteArray} {c : Cat} {D : Nat → ByteArray} {T : Nat → Nat → Prop} (ha : Arch all m c D) (h : AInv a m all T) (ho : Ones a m k0) (h16 : 16 ≤ m) (h64 : m ≤ 64) (h2 : m % 2 = 0) {l : List Fil} (hc : (addS a l).2 = 0) :
  AInv (addS a l).1 m (addG a all l) T := by
 have hpa := h.part h64
 have hop := ha.openS hpa h16 h64 h2 (fun i hi => ho.code hpa h16 h64 h2 (by omega))
 have hge := catFault_blk ha.ok
 have hin := ha.inside
 unfold addG
 unfold addS at hc ⊢
 rw [hop] at hc ⊢
 dsimp only at hc ⊢
 rw [if_neg (by decide)] at hc ⊢
 by_cases hf : filesS l = 0
 ·rw [if_neg (by simpa using hf)] at hc ⊢
  cases hae : addE c.blocks.length c.entries 0 l with
  | none => rw [hae] at hc; exact absurd hc (by show ¬ (7 : Int) = 0; decide)
  | some es =>
   rw [hae] at hc
   dsimp only at hc ⊢
   by_cases hfull : 10 < es.length ∨ c.blocks.length = 10 ∨ ((dv a 0).sec.length : Int) < nextAt 8 c.blocks + secs (packS (dataS l)).1.size
   ·rw [if_pos hfull] at hc; exact absurd hc (by show ¬ (8 : Int) = 0; decide)
   ·rw [if_neg hfull] at hc ⊢
    have hn1 : ¬ 10 < es.length := fun e => hfull (.inl e)
    have hn2 : c.blocks.length ≠ 10 := fun e => hfull (.inr (.inl e))
    have hn3 : ¬ ((dv a 0).sec.length : Int) < nextAt 8 c.blocks + secs (packS (dataS l)).1.size := fun e => hfull (.inr (.inr e))
    have hok := addCat_ok (n := (dv a 0).sec.length) ha.ok hf hae hn1 hn2 hn3 (by rw [h.good.l0]; exact h64)
    obtain ⟨hd1, hd2, hd3⟩ := data_ok hf
    rw [h.good.l0] at hn3
    obtain ⟨s, hs⟩ : ∃ s, s = (packS (dataS l)).1 := ⟨_, rfl⟩
    rw [← hs] at hc hn3 hok hd3 ⊢
    obtain ⟨f, hfe⟩ : ∃ f : Nat, nextAt 8 c.blocks = (f : Int) := ⟨(nextAt 8 c.blocks).toNat, by omega⟩
    have hfit : f + (s.size + 23) / 24 ≤ m := by unfold secs at hn3; omega
    have hct := catText_size hok
    have hse : (s.size + 23) / 24 ≤ 26 := by omega
    have hw1 := sw_good (a := a) (first := (f : Int)) (s := s) (fault_none (h.good.may h16 h2) ⟨by omega, by omega⟩ (by have : (dv a 0).sec.length = m := h.good.l0; omega))
    obtain ⟨o1, p1⟩ := ainv_sw h16 h64 h2 f s ((s.size + 23) / 24) 0 a all ho h (by omega)
    rw [hfe] at hc ⊢
    rw [Int.toNat_natCast]
    rw [hw1] at hc ⊢
    dsimp only at hc ⊢
    obtain ⟨x, hx⟩ : ∃ x, x = streamWriteLoop ((s.size + 23) / 24) 0 a (f : Int) s := ⟨_, rfl⟩
    rw [← hx] at hc o1 p1 ⊢
    obtain ⟨al1, hal1⟩ : ∃ al, al = swAll ((s.size + 23) / 24) 0 all f s := ⟨_, rfl⟩
    rw [← hal1] at p1 ⊢
    have hw2 := sw_good (a := x) (first := ((0 : Nat) : Int)) (s := catText (addCat c es s)) (fault_none (p1.good.may h16 h2) ⟨by omega, by omega⟩ (by have : (dv x 0).sec.length = m := p1.good.l0; omega))
    have e8 : ((catText (addCat c es s)).size + 23) / 24 = 8 := by rw [hct]
    rw [e8] at hw2
    obtain ⟨_, p2⟩ := ainv_sw h16 h64 h2 0 (catText (addCat c es s)) 8 0 x al1 o1 p1 (by omega)
    have hw2' : streamWriteS x 0 (catText (addCat c es s)) = (streamWriteLoop 8 0 x ((0 : Nat) : Int) (catText (addCat c es s)), 0) := hw2
    rw [hw2']
    exact p2
 ·rw [if_pos (by simpa using hf)] at hc
  exact absurd hc hf
structure Sh where
 a : List Dev
 all : List ByteArray
 next : Nat
 rounds : Nat
structure Ans where
 code : Int
 data : ByteArray
 names : List ByteArray
 count : Int
 gone : List Int
def ansE (e : Int) : Ans := ⟨e, .empty, [], 0, []⟩
def goneI (l : List Nat) : List Int := (l.map fun (n : Nat) => (n : Int)).mergeSort (fun x y => decide (x ≤ y))
def hurtS (s : Sh) (d : Int) (x : Dev × Int) : Sh × Ans := if x.2 = 0 then ({ s with a := s.a.set d.toNat x.1 }, ansE 0) else (s, ansE x.2)
def actS (m : Nat) (s : Sh) (x : ActD) : Sh × Ans :=
 if x.kind = 1 then (if (addS s.a x.files).2 = 0 then { s with a := (addS s.a x.files).1, all := addG s.a s.all x.files } else s, ansE (addS s.a x.files).2)
 else if x.kind = 2 then (s, ⟨(getS s.a x.name).2, (getS s.a x.name).1, [], 0, []⟩)
 else if x.kind = 3 then (s, ⟨(openS s.a).2, .empty, (openS s.a).1.entries.map (·.name), 0, []⟩)
 else if x.kind = 4 then (if inB x.d 0 2 then hurtS s x.d (loseS (dv s.a x.d.toNat) x.n, touchCode (dv s.a x.d.toNat) x.n) else (s, ansE 2))
 else if x.kind = 5 then (if inB x.d 0 2 then hurtS s x.d (turnS (dv s.a x.d.toNat) x.n x.at_ x.by_) else (s, ansE 2))
 else if x.kind = 6 then (if (replaceS s.a x.d).2 = 0 then { s with a := (replaceS s.a x.d).1 } else s, ansE (replaceS s.a x.d).2)
 else if x.kind = 7 then (if inB x.n 0 64 then
   let r := scrubN m s.all x.n.toNat ⟨s.a, s.next, s.rounds, 0, []⟩
   (⟨r.a, s.all, r.next, r.rounds⟩, ⟨0, .empty, [], r.count, goneI r.gone⟩)
  else (s, ansE 2))
 else if x.kind = 8 then (s, ⟨(healthS s.a).2.2, .empty, [], (healthS s.a).1, (healthS s.a).2.1⟩)
 else (s, ansE 3)
def runS (m : Nat) : List ActD → Sh → List Ans × Sh
 | [], s => ([], s)
 | x :: l, s => ((actS m s x).2 :: (runS m l (actS m s x).1).1, (runS m l (actS m s x).1).2)
theorem runS_nil (m : Nat) (s : Sh) : runS m [] s = ([], s) := rfl
theorem runS_cons (m : Nat) (x : ActD) (l : List ActD) (s : Sh) : runS m (x :: l) s = ((actS m s x).2 :: (runS m l (actS m s x).1).1, (runS m l (actS m s x).1).2) := rfl
theorem runS_append (m : Nat) : ∀ (l l' : List ActD) (s : Sh), runS m (l ++ l') s = ((runS m l s).1 ++ (runS m l' (runS m l s).2).1, (runS m l' (runS m l s).2).2)
 | [], l', s => rfl
 | x :: l, l', s => by
  rw [List.cons_append, runS_cons, runS_append m l l', runS_cons]
  rfl
theorem runS_length (m : Nat) : ∀ (l : List ActD) (s : Sh), (runS m l s).1.length = l.length
 | [], s => rfl
 | x :: l, s => by rw [runS_cons, List.length_cons, List.length_cons, runS_length m l]
theorem runS_snoc (m : Nat) (l : List ActD) (k : Nat) (h : k < l.length) (s : Sh) :
  (runS m (l.take (k + 1)) s).1 = (runS m (l.take k) s).1 ++ [(actS m (runS m (l.take k) s).2 l[k]).2] ∧ (runS m (l.take (k + 1)) s).2 = (actS m (runS m (l.take k) s).2 l[k]).1 := by
 rw [List.take_succ_eq_append_getElem h, runS_append]
 exact ⟨rfl, rfl⟩
structure ShOk (m : Nat) (s : Sh) : Prop where
 part : Part s.a m s.all
 next : s.next < m
 rounds : s.rounds ≤ 1000
theorem iter_ext {a w : World} (h : Ext a w) {k : Nat} (hk : a.heap.size ≤ k) (s : ByteArray) (pos : Nat) : Ext a (w.iterAt k s pos) := Lib.below_iterAt h hk s pos
theorem arrRead_size {a : List Dev} {n : Int} (h : (arrReadS a n).2.2 = 0) : (arrReadS a n).1.size = 24 := by
 unfold arrReadS at h ⊢
 split
 ·rename_i ht; rw [if_pos ht] at h; exact absurd h ht
 ·rename_i ht
  rw [if_neg ht] at h
  split
  ·rename_i hm; exact mirrorS_size hm
  ·rename_i hm
   rw [if_neg hm] at h
   split
   ·rename_i hq; rw [if_pos hq] at h; exact absurd h (by show ¬ (11 : Int) = 0; decide)
   ·rename_i hq
    have hq1 : (mirrorS a (partner n)).2 ≠ 0 := fun e => hq (.inl e)
    have hq2 : (parS a n).2 = 0 := by
     by_cases e : (parS a n).2 = 0
     ·exact e
     ·exact absurd (.inr e) hq
    rw [xorS_size (by rw [mirrorS_size hq1]; exact readS_size hq2)]
    exact readS_size hq2
theorem xorS_at {s t : ByteArray} (h : s.size = t.size) (k : Nat) (hk : k < s.size) (hk2 : k < (xorS s t).size) : (xorS s t)[k] = s[k] ^^^ t[k]'(by omega) := by
 have e : lst (xorS s t) = List.zipWith (fun a b => a ^^^ b) (lst s) (lst t) := lst_bs _
 have h1 : (xorS s t)[k] = (lst (xorS s t))[k]'(by rw [length_lst]; exact hk2) := rfl
 rw [h1]
 simp only [e, List.getElem_zipWith]
 rfl
theorem parityRight_any (cs : List Value) (a : List Dev) (n : Int) (w : World) (h : RArr w cs a) (hn : I64 n) (ht : arrTouch a n = 0) (hp : PR a n) :
  Calls Tryz.prog 170 #[.agg cs.toArray, .int .i64 n] w fun e w' => e = .returned (.tuple #[.bool (parRightS a n).1, .bool (parRightS a n).2]) ∧ Ext w w' := by
 obtain ⟨A, c, rfl⟩ := h.form
 obtain ⟨n0, n63⟩ := n2_of ht
 have h3 := (arr_parts (arrTouch_zero.1 ht).1).1
 have HT := Lib.hid ht
 have HP := Lib.hid hp
 have H3 := Lib.hid h3
 have HR := Lib.hid h
 have HN := Lib.hid hn
 have HPX := Lib.hid (partner_xor n n0 n63)
 have hpr := partner_range ht
 have HPN := Lib.hid (show I64 (partner n) from ⟨by omega, by omega⟩)
 clear ht hp h3 h hn hpr
 go_enter Tryz.func170, Tryz.ntmps170
 go_wp2_with fail
 refine calls_abs (fun W => Ext w W ∧ Blk_ W w.heap.size 30 #[.slice A a.length c]) ⟨(Ext.refl _).alloc _, Blk_.new _ _ _⟩ ?_
 rintro w1 ⟨hx1, hb1⟩
 obtain ⟨b10, h10⟩ : ∃ b, b = w.heap.size := ⟨_, rfl⟩
 rw [← h10] at hb1 ⊢
 have HX1 := Lib.hid hx1
 have HB1 := Lib.hid hb1
 have HR1 := Lib.hid (HR.out.up hx1)
 clear hx1 hb1 h10 HR
 refine (arrRead_any [.slice A a.length c] a n w1 HR1.out HN.out).mono ?_
 rintro e w2 ⟨rfl, hx2⟩
 have f0 := (HB1.out.ext hx2).cell 0
 simp at f0
 have HX2 := Lib.hid hx2
 clear hx2
 obtain ⟨e0, he0⟩ : ∃ e0, e0 = (arrReadS a n).2.2 := ⟨_, rfl⟩
 obtain ⟨s, hs⟩ : ∃ s, s = (arrReadS a n).1 := ⟨_, rfl⟩
 rw [← he0, ← hs]
 have HE0 := Lib.hid he0
 have HS0 := Lib.hid hs
 clear he0 hs
 generalize (arrReadS a n).2.1 = how
 go_wp2_with fail
 rw [HPX.out]
 refine (arrRead_any [.slice A a.length c] a (partner n) w2 (HR1.out.up HX2.out) HPN.out).mono ?_
 rintro e w3 ⟨rfl, hx3⟩
 clear f0
 have HX3 := Lib.hid (HX2.out.trans hx3)
 clear hx3
 obtain ⟨e1, he1⟩ : ∃ e1, e1 = (arrReadS a (partner n)).2.2 := ⟨_, rfl⟩
 obtain ⟨t, htt⟩ : ∃ t, t = (arrReadS a (partner n)).1 := ⟨_, rfl⟩
 rw [← he1, ← htt]
 generalize (arrReadS a (partner n)).2.1 = how2
 have he0 := HE0.out
 have hs := HS0.out
 clear HE0 HS0
 by_cases hc0 : e0 = 0
 case neg =>
  have hF : parRightS a n = (false, false) := by unfold parRightS; rw [if_pos (.inl (by rw [← he0]; exact hc0))]
  have hb0 : (e0 != 0) = true := by simpa using hc0
  have HF := Lib.hid hF
  clear hc0 he0 he1 hs htt hF
  go_wp2_with fail
  go_ret2
  rw [HF.out]
  exact ⟨rfl, HX1.out.trans HX3.out⟩
 case pos =>
 by_cases hc1 : e1 = 0
 case neg =>
  have hF : parRightS a n = (false, false) := by unfold parRightS; rw [if_pos (.inr (by rw [← he1]; exact hc1))]
  have hb0 : (e1 != 0) = true := by simpa using hc1
  rw [hc0]
  have HF := Lib.hid hF
  clear hc0 hc1 he0 he1 hs htt hF
  go_wp2_with fail
  go_ret2
  rw [HF.out]
  exact ⟨rfl, HX1.out.trans HX3.out⟩
 case pos =>
 have hF := par_pr HP.out (by rw [← he0]; exact hc0) (by rw [← he1]; exact hc1)
 have hxor := HP.out (by rw [← he0]; exact hc0) (by rw [← he1]; exact hc1)
 have hz0 := arrRead_size (a := a) (n := n) (by rw [← he0]; exact hc0)
 have hz1 := arrRead_size (a := a) (n := partner n) (by rw [← he1]; exact hc1)
 rw [← hs] at hxor hz0
 rw [← htt] at hxor hz1
 rw [hc0, hc1]
 have HF := Lib.hid hF
 clear hc0 hc1 he0 he1 hF hs htt
 have HR3 := Lib.hid (HR1.out.up HX3.out)
 have HB3 := Lib.hid (HB1.out.ext HX3.out)
 obtain ⟨b, o, rfl, hl⟩ := HR3.out.look 0 (by have := H3.out; omega)
 obtain ⟨A1, c1, A2, c2, q0, q1, hd⟩ := hl 2 (by have := H3.out; omega)
 simp at q0 q1
 have h3i : (2 : Int) < (a.length : Int) := by have := H3.out; omega
 have f0 := HB3.out.cell 0
 simp at f0
 have HD := Lib.hid hd
 have HXOR := Lib.hid hxor
 have HZ := Lib.hid (And.intro hz0 hz1)
 clear hl hd hxor hz0 hz1
 go_wp2_with fail
 refine calls_abs (fun W => Ext w3 W) (by first | exact Ext.refl _ | exact (Ext.refl _).alloc _) ?_
 intro w4 hx4
 refine (devRead_any [.slice A1 (dv a 2).sec.length c1, .slice A2 (dv a 2).lost.length c2] (dv a 2) (n / 2) (512 + n / 2) w4 (HD.out.up hx4) ⟨by omega, by omega⟩ ⟨by omega, by omega⟩).mono ?_
 rintro e w5 ⟨rfl, hx5⟩
 have hpar : readS (dv a 2) (n / 2) (512 + n / 2) = parS a n := rfl
 rw [hpar]
 have HX5 := Lib.hid (HX1.out.trans (HX3.out.trans (hx4.trans hx5)))
 clear hpar hx4 hx5 f0 q0 q1 HX1 HX2 HX3 HB1 HB3 HR1 HR3
 by_cases hg : (parS a n).2 = 0
 case neg =>
  have hgb : ((parS a n).2 != 0) = true := by simpa using hg
  have hdb : decide ((parS a n).2 = 0) = false := decide_eq_false hg
  have hFF := HF.out
  rw [hdb] at hFF
  have HFF := Lib.hid hFF
  clear hg hdb HXOR HF hFF
  generalize (parS a n).2 = pc at *
  generalize (parS a n).1 = pb at *
  go_wp2_with fail
  go_ret2
  rw [HFF.out]
  exact ⟨rfl, HX5.out⟩
 case pos =>
 have hx := HXOR.out hg
 have hFF := HF.out
 rw [decide_eq_true hg] at hFF
 have HFF := Lib.hid hFF
 rw [hg]
 clear HF hFF
 obtain ⟨P, hP⟩ : ∃ P, P = (parS a n).1 := ⟨_, rfl⟩
 rw [← hP] at hx ⊢
 clear hP hg HXOR
 have hzp : P.size = 24 := by rw [hx, xorS_size (by have := HZ.out; omega)]; exact HZ.out.1
 have HXP := Lib.hid hx
 have HZP := Lib.hid hzp
 clear hx hzp
 go_wp2_with fail
 refine wp_abs (fun W => Ext w5 W ∧ W.heap[w5.heap.size]? = some (.stringIter P 0)) ⟨(Ext.refl _).alloc _, by simpa using World.iter_heap w5 P 0⟩ ?_
 rintro w6 ⟨hx6, hk6⟩
 obtain ⟨k0, hk0⟩ : ∃ k, k = w5.heap.size := ⟨_, rfl⟩
 rw [← hk0] at hk6 ⊢
 have HK0 := Lib.hid hk0
 have HX6 := Lib.hid (And.intro hx6 hk6)
 clear hk0 hx6 hk6
 go_loopw [14] (fun _ wr => ∃ pos : Nat, wr.heap[k0]? = some (.stringIter P pos) ∧ Ext w5 wr) (fun _ wr => P.size - wr.iterPos k0)
 case atStart => exact ⟨0, HX6.out.2, HX6.out.1⟩
 case round =>
  clear HX6
  obtain ⟨pos, hk, hx⟩ := hrel
  by_cases hlt : pos < P.size
  ·have hnext : ∀ ty, (Instr.next (.pointer (some ⟨k0, 0, none⟩)) true ty).run Tryz.prog wr = _ := fun ty => Lib.run_next_any_at wr k0 P pos ty hk hlt
   have hk1 := Lib.iterAt_heap wr k0 P pos (pos + (Utf8.decode P pos).2) hk
   have hx1 := iter_ext hx (Nat.le_of_eq HK0.out.symm) P (pos + (Utf8.decode P pos).2)
   have hmu : wr.iterPos k0 = pos := by simp [World.iterPos, hk]
   have hstep : 1 ≤ (Utf8.decode P pos).2 := by
    by_cases ha : (P[pos]).toNat < 128
    ·rw [decode_ascii P pos hlt ha]; exact Nat.le_refl _
    ·exact (decode_high P pos hlt (by omega)).2
   generalize wr.iterAt k0 P (pos + (Utf8.decode P pos).2) = W1 at hnext hk1 hx1
   generalize (Utf8.decode P pos).2 = step at *
   generalize (Utf8.decode P pos).1 = rune at *
   have hs0 : pos < s.size := by have := HZ.out; have := HZP.out; omega
   have ht0 : pos < t.size := by have := HZ.out; have := HZP.out; omega
   have hki : (pos : Int) < (P.size : Int) := by omega
   have hki1 : (pos : Int) < (s.size : Int) := by omega
   have hki2 : (pos : Int) < (t.size : Int) := by omega
   have hpx : P[pos] = s[pos] ^^^ t[pos] := by
    have hxp := HXP.out
    subst hxp
    exact xorS_at (by have := HZ.out; omega) pos hs0 hlt
   have hxb := xor_byte (s[pos]) (t[pos])
   have HXB := Lib.hid hxb
   have HPX2 := Lib.hid hpx
   have HK1 := Lib.hid hk1
   have HX1 := Lib.hid hx1
   have HMU := Lib.hid (And.intro hmu hstep)
   clear hk hx hk1 hx1 hmu hstep hpx hxb
   go_wp2_with fail
   go_quiet (fail)
   rw [HXB.out, HPX2.out]
   have hnn : (((s[pos] ^^^ t[pos]).toNat : Int) != ((s[pos] ^^^ t[pos]).toNat : Int)) = false := by simp
   rw [hnn]
   generalize s[pos] ^^^ t[pos] = bx
   go_wp2_with fail
   have hk2 : (W1.drewN nq).heap[k0]? = some (.stringIter P (pos + step)) := HK1.out
   go_roundw
   case rel => exact ⟨pos + step, hk2, HX1.out.drewN _⟩
   case measure =>
    have h1 : (W1.drewN nq).iterPos k0 = pos + step := iterPos_of hk2
    have h2 := HMU.out
    rw [h1, h2.1]
    omega
  ·have hnext : ∀ ty, (Instr.next (.pointer (some ⟨k0, 0, none⟩)) true ty).run Tryz.prog wr = _ := fun ty => Lib.run_next_end_at wr k0 P pos ty hk hlt
   have HX := Lib.hid hx
   clear hx
   go_wp2_with fail
   go_ret2
   rw [HFF.out]
   exact ⟨rfl, HX5.out.trans HX.out⟩
end Go.Proofs.YtgjijcgkmofaaaaGreatDoor
