/-
  archive.Open and the document's OpenedOf: the catalog of an archive; the law ArchiveOpens. Conditions: the argument reads as an array.
-/
import Derived.Test.YtgjijcgkmofaaaaGreatDoorU12
import Derived.Shelf.LaysM
import Derived.Shelf.Strconv.Itoa3
import Derived.Shelf.Bits.Mul64
namespace Go.Proofs.YtgjijcgkmofaaaaGreatDoor
set_option linter.unusedSimpArgs false
set_option linter.unusedVariables false
set_option maxRecDepth 100000
set_option maxHeartbeats 8000000
open Go.RowKit
def openS (a : List Dev) : Cat × Int := if (streamReadS a 0 192).2 = 0 then decCatS (streamReadS a 0 192).1 else (noCat, (streamReadS a 0 192).2)
theorem open_ok {a : List Dev} (h : (streamReadS a 0 192).2 = 0) : openS a = decCatS (streamReadS a 0 192).1 := by unfold openS; rw [if_pos h]
theorem open_bad {a : List Dev} (h : ¬ (streamReadS a 0 192).2 = 0) : openS a = (noCat, (streamReadS a 0 192).2) := by unfold openS; rw [if_neg h]
theorem stream_small (a : List Dev) (first n : Int) (hn : n ≤ 140737488355328) : (streamReadS a first n).1.size ≤ 140737488355328 := by
 unfold streamReadS
 split
 ·exact Nat.zero_le _
 ·split
  ·exact Nat.zero_le _
  ·show (ByteArray.extract _ 0 n.toNat).size ≤ _
   rw [ByteArray.size_extract]; omega
theorem av_box {α : Type} {C bytes : Nat} {R : Rd α} {enc : α → List Value} (he : Enc C R enc) {w : World} {v : Value} {l : List α} {g : Nat} {t : TypeId} {A A' : Option Addr} {n c n' c' : Nat} (h : SlR C bytes R w v l) (hb : Blk_ w g t #[.slice A n c, .slice A' n' c'])
  (hne : ∀ a, ∃ u, (enc a)[0]? = some u ∧ ∀ B m k, u ≠ .slice B m k) : Av g v := by
 obtain ⟨A1, cap, e, hb1, hc1, h⟩ := h
 intro b o s m k ev
 rw [e] at ev
 injection ev with h1 h2 h3
 rcases h with h | ⟨b', o', hA, h⟩
 ·left; rw [← h2, h]; rfl
 ·by_cases h0 : l.length = 0
  ·left; omega
  ·right
   rw [hA] at h1
   injection h1 with h1
   injection h1 with h1 h1' h1''
   subst h1
   rintro rfl
   obtain ⟨cs, hl, hcell, hr⟩ := h 0 (by omega)
   obtain ⟨u, hu, hun⟩ := hne (l[0]'(by omega))
   have hcs := he.cs _ _ _ hr
   have hC : 0 < C := by
    rw [← he.len (l[0]'(by omega))]
    exact (List.getElem?_eq_some_iff.1 hu).1
   have hc := hcell 0 hC
   rw [hcs, hu, hb.cell] at hc
   match hq : o' + 0 * C + 0, hc with
   | 0, hc => simp at hc; exact hun _ _ _ hc.symm
   | 1, hc => simp at hc; exact hun _ _ _ hc.symm
   | j + 2, hc => simp at hc
theorem RCat.off {w : World} {V1 V2 : Value} {d : Cat} {g k : Nat} {t : TypeId} {A A' : Option Addr} {n c n' c' : Nat} (h : RCat w [V1, V2] d) (hb : Blk_ w g t #[.slice A n c, .slice A' n' c']) (u : Value) : RCat (w.setCell ⟨g, k, none⟩ u) [V1, V2] d := by
 obtain ⟨v1, v2, e, h1, h2⟩ := h
 simp only [List.cons.injEq, and_true] at e
 obtain ⟨rfl, rfl⟩ := e
 exact ⟨_, _, rfl, h1.far encBlk_ok (p := ⟨g, k, none⟩) (av_box encBlk_ok h1 hb (fun a => ⟨_, rfl, fun _ _ _ h => by cases h⟩)) u, h2.far encEnt_ok (p := ⟨g, k, none⟩) (av_box encEnt_ok h2 hb (fun a => ⟨_, rfl, fun _ _ _ h => by cases h⟩)) u⟩
theorem archOpen_any (cs : List Value) (a : List Dev) (w : World) (h : RArr w cs a) :
  Calls Tryz.prog 45 #[.agg cs.toArray] w fun e w' => ∃ A1 c1 A2 c2, e = .returned (.tuple #[.agg #[.slice A1 (openS a).1.blocks.length c1, .slice A2 (openS a).1.entries.length c2], .int .i64 (openS a).2]) ∧ Ext w w' ∧ RCat w' [.slice A1 (openS a).1.blocks.length c1, .slice A2 (openS a).1.entries.length c2] (openS a).1 := by
 obtain ⟨A, c, rfl⟩ := h.form
 go_enter Tryz.func45, Tryz.ntmps45
 go_wp2_with fail
 refine calls_abs (fun W => Ext w W ∧ Blk_ W (w.heap.size + 1) 88 #[.slice none 0 0, .slice none 0 0]) ⟨((Ext.refl _).alloc _).alloc _, Blk_.new1 _ _ _ _⟩ ?_
 rintro W ⟨hx, hb⟩
 refine (streamRead_any [.slice A a.length c] a 0 192 W (h.up hx) (by unfold I64; omega) (by unfold I64; omega)).mono ?_
 rintro e w1 ⟨rfl, hx1⟩
 have HOK := Lib.hid (fun hu => open_ok (a := a) hu)
 have HBAD := Lib.hid (fun hu => open_bad (a := a) hu)
 have hsz := stream_small a 0 192 (by omega)
 obtain ⟨S, hS⟩ : ∃ S, S = (streamReadS a 0 192).1 := ⟨_, rfl⟩
 obtain ⟨u, hu⟩ : ∃ u, u = (streamReadS a 0 192).2 := ⟨_, rfl⟩
 rw [← hS] at HOK hsz ⊢
 rw [← hu] at HOK HBAD ⊢
 have HX1 := Lib.hid (hx.trans hx1)
 have HB1 := Lib.hid (hb.ext hx1)
 have HSZ := Lib.hid hsz
 clear hS hu hx hx1 hb hsz h
 by_cases hu0 : u = 0
 ·have HO := Lib.hid (HOK.out hu0)
  subst hu0
  clear HOK HBAD
  go_wp2_with fail
  refine (catDecode_any S w1 HSZ.out).mono ?_
  rintro e w2 ⟨A1, c1, A2, c2, rfl, hx2, hr⟩
  rw [← HO.out] at hr ⊢
  obtain ⟨d, hd⟩ : ∃ d, d = (openS a).1 := ⟨_, rfl⟩
  obtain ⟨v, hv⟩ : ∃ v, v = (openS a).2 := ⟨_, rfl⟩
  rw [← hd] at hr ⊢
  rw [← hv]
  have HD := Lib.hid (And.intro hd hv)
  have HB2 := Lib.hid (HB1.out.ext hx2)
  have HX2 := Lib.hid (HX1.out.trans hx2)
  have HR1 := Lib.hid (hr.off (k := 0) HB2.out (.slice A1 d.blocks.length c1))
  have HR2 := Lib.hid (HR1.out.off (k := 1) (HB2.out.set 0 (.slice A1 d.blocks.length c1)) (.slice A2 d.entries.length c2))
  clear hd hv hx2 hr
  have m0 := HB2.out.cell 0
  have m1 := HB2.out.cell 1
  have z0 := HB2.out.frozen 0
  have z1 := HB2.out.frozen 1
  simp at m0 m1
  go_wp2_with fail
  have HXX := Lib.hid ((HX2.out.setCell (p := ⟨w.heap.size + 1, 0, none⟩) (by dsimp only; omega) (.slice A1 d.blocks.length c1)).setCell (p := ⟨w.heap.size + 1, 1, none⟩) (by dsimp only; omega) (.slice A2 d.entries.length c2))
  have HRS := Lib.hid ((HB2.out.set 0 (.slice A1 d.blocks.length c1)).set 1 (.slice A2 d.entries.length c2))
  refine bodyPost_ret (res_cell_tmp rfl rfl HRS.out Tryz.underlying88 rfl (by kernel_rfl)) rfl ?_
  rw [← HD.out.1, ← HD.out.2]
  exact ⟨A1, c1, A2, c2, rfl, HXX.out, HR2.out⟩
 ·have HO := Lib.hid (HBAD.out hu0)
  have hu1 : (u != 0) = true := by simp [bne, beq_false_of_ne hu0]
  clear HOK HBAD hu0
  have m0 := HB1.out.cell 0
  have m1 := HB1.out.cell 1
  have z0 := HB1.out.frozen 0
  have z1 := HB1.out.frozen 1
  simp at m0 m1
  go_wp2_with fail
  have HXX := Lib.hid ((HX1.out.setCell (p := ⟨w.heap.size + 1, 0, none⟩) (by dsimp only; omega) (.slice none 0 0)).setCell (p := ⟨w.heap.size + 1, 1, none⟩) (by dsimp only; omega) (.slice none 0 0))
  have HRS := Lib.hid ((HB1.out.set 0 (.slice none 0 0)).set 1 (.slice none 0 0))
  refine bodyPost_ret (res_cell_tmp rfl rfl HRS.out Tryz.underlying88 rfl (by kernel_rfl)) rfl ?_
  rw [HO.out]
  exact ⟨none, 0, none, 0, rfl, HXX.out, noCat_read _⟩
theorem dec_bad {s : ByteArray} (h : ¬ (decCatS s).2 = 0) : (decCatS s).1 = noCat := by
 revert h
 unfold decCatS decCatL
 split
 ·intro _; rfl
 ·split
  ·intro _; rfl
  ·intro _; rfl
  ·split
   ·intro _; rfl
   ·unfold endCat
    split
    ·split
     ·intro h; exact absurd rfl h
     ·intro _; rfl
    ·intro _; rfl
theorem open_none {a : List Dev} (h : ¬ (openS a).2 = 0) : (openS a).1 = noCat := by
 by_cases h0 : (streamReadS a 0 192).2 = 0
 ·rw [open_ok h0] at h ⊢; exact dec_bad h
 ·rw [open_bad h0]
def namesL (c : Cat) : List ByteArray := c.entries.map (·.name)
theorem names_step (c : Cat) (k : Nat) (h : k < c.entries.length) : ((namesL c).take (k + 1)).flatMap encStr = ((namesL c).take k).flatMap encStr ++ [.string c.entries[k].name] := by
 have hl : k < (namesL c).length := by unfold namesL; rw [List.length_map]; exact h
 have he : (namesL c)[k]'hl = c.entries[k].name := by simp [namesL]
 rw [List.take_succ_eq_append_getElem hl, List.flatMap_append, he]
 rfl
def getS (a : List Dev) (name : ByteArray) : ByteArray × Int :=
 if (openS a).2 = 0 then
  if (findS (openS a).1 name).2 = 0 then
   let x := (findS (openS a).1 name).1
   let b := (openS a).1.blocks.getD x.block.toNat ⟨0, 0⟩
   if (streamReadS a b.first b.bytes).2 = 0 then
    if (unpackS (streamReadS a b.first b.bytes).1).2 = 0 then
     if ((unpackS (streamReadS a b.first b.bytes).1).1.size : Int) < x.at_ + x.bytes then (.empty, 9)
     else ((unpackS (streamReadS a b.first b.bytes).1).1.extract x.at_.toNat (x.at_ + x.bytes).toNat, 0)
    else (.empty, (unpackS (streamReadS a b.first b.bytes).1).2)
   else (.empty, (streamReadS a b.first b.bytes).2)
  else (.empty, (findS (openS a).1 name).2)
 else (.empty, (openS a).2)
theorem find_mem {c : Cat} {t : ByteArray} (h : (findS c t).2 = 0) : catFault c = 0 ∧ (findS c t).1 ∈ c.entries := by
 unfold findS at h ⊢
 by_cases hc : catFault c = 0
 ·rw [if_pos hc] at h ⊢
  refine ⟨hc, ?_⟩
  cases hf : c.entries.find? (fun x => decide (lst x.name = lst t)) with
  | none => rw [hf] at h; exact absurd h (by decide)
  | some x => exact List.mem_of_find?_eq_some hf
 ·rw [if_neg hc] at h; exact absurd h hc
theorem found_ok {c : Cat} {t : ByteArray} (h : (findS c t).2 = 0) : ∃ k : Nat, (findS c t).1.block = (k : Int) ∧ k < c.blocks.length ∧ c.blocks.length ≤ 10 ∧ 0 ≤ (findS c t).1.at_ ∧ (findS c t).1.at_ ≤ 600 ∧ 0 ≤ (findS c t).1.bytes ∧ (findS c t).1.bytes ≤ 200 ∧ ∀ b ∈ c.blocks, 0 ≤ b.bytes ∧ b.bytes ≤ 1200 := by
 obtain ⟨h1, h2⟩ := find_mem h
 obtain ⟨k1, _, k3, k4⟩ := catFault_ok h1
 have h3 := entBad_false (entsF_ok _ _ _ k4 _ h2)
 refine ⟨(findS c t).1.block.toNat, by omega, by omega, k1, h3.2.2.2.1, h3.2.2.2.2.1, h3.2.2.2.2.2.1, h3.2.2.2.2.2.2, blocksF_range _ 8 (by omega) k3⟩
theorem archGet_any (cs : List Value) (a : List Dev) (nm : ByteArray) (w : World) (h : RArr w cs a) :
  Calls Tryz.prog 25 #[.agg cs.toArray, .string nm] w fun e w' => e = .returned (.tuple #[.string (getS a nm).1, .int .i64 (getS a nm).2]) ∧ Ext w w' := by
 obtain ⟨A, c, rfl⟩ := h.form
 obtain ⟨R, hR⟩ : ∃ R, R = getS a nm := ⟨_, rfl⟩
 rw [← hR]
 unfold getS at hR
 go_enter Tryz.func25, Tryz.ntmps25
 go_wp2_with fail
 refine calls_abs (fun W => Ext w W ∧ Blk_ W w.heap.size 30 #[.slice A a.length c]) ⟨(Ext.refl _).alloc _, Blk_.new _ _ _⟩ ?_
 rintro W ⟨hx, hb⟩
 refine (archOpen_any [.slice A a.length c] a W (h.up hx)).mono ?_
 rintro e w1 ⟨A1, c1, A2, c2, rfl, hx1, hr1⟩
 obtain ⟨d, hd⟩ : ∃ d, d = (openS a).1 := ⟨_, rfl⟩
 obtain ⟨u, hu⟩ : ∃ u, u = (openS a).2 := ⟨_, rfl⟩
 rw [← hd, ← hu] at hR
 rw [← hd] at hr1 ⊢
 rw [← hu]
 have HX1 := Lib.hid (hx.trans hx1)
 have HB1 := Lib.hid (hb.ext hx1)
 have HR1 := Lib.hid hr1
 have HH := Lib.hid h
 clear hd hu hx hx1 hb hr1 h
 by_cases hu0 : u = 0
 ·subst hu0
  rw [if_pos rfl] at hR
  go_wp2_with fail
  refine calls_abs (fun W => Ext w1 W ∧ Blk_ W w1.heap.size 88 #[.slice A1 d.blocks.length c1, .slice A2 d.entries.length c2]) ⟨(Ext.refl _).alloc _, Blk_.new _ _ _⟩ ?_
  rintro W ⟨hx, hb⟩
  refine (catFind_any [.slice A1 d.blocks.length c1, .slice A2 d.entries.length c2] d nm W (HR1.out.up hx)).mono ?_
  rintro e w2 ⟨rfl, hx2⟩
  have hfo := fun hv => found_ok (c := d) (t := nm) hv
  obtain ⟨X, hX⟩ : ∃ X, X = (findS d nm).1 := ⟨_, rfl⟩
  obtain ⟨v, hv⟩ : ∃ v, v = (findS d nm).2 := ⟨_, rfl⟩
  rw [← hX, ← hv] at hR hfo ⊢
  unfold entV
  have HX2 := Lib.hid (HX1.out.trans (hx.trans hx2))
  have HB2 := Lib.hid (HB1.out.ext (hx.trans hx2))
  have HC2 := Lib.hid (hb.ext hx2)
  have HE12 := Lib.hid (hx.trans hx2)
  clear hX hv hx hx2 hb HX1 HB1
  have lc := HC2.out.lt
  have la := HB2.out.lt
  by_cases hv0 : v = 0
  ·subst hv0
   rw [if_pos rfl] at hR
   obtain ⟨k, hk, hkl, hl10, ha0, ha6, hn0, hn2, hbr⟩ := hfo rfl
   try dsimp only at hR
   rw [hk, Int.toNat_natCast, List.getD_eq_getElem?_getD, List.getElem?_eq_getElem hkl] at hR
   obtain ⟨V1, V2, hvv, hs1, hs2⟩ := HR1.out
   simp only [List.cons.injEq, and_true] at hvv
   obtain ⟨rfl, rfl⟩ := hvv
   have hmem := hs1.mem encBlk_ok w1 _ (List.getElem_mem hkl)
   have hbb := hbr _ (List.getElem_mem hkl)
   obtain ⟨A1', c1', hv1, _, _, p1⟩ := hs1.rowE encBlk_ok
   injection hv1 with e1 e2 e3
   subst e1 e3
   obtain ⟨b1, o1, rfl, g1⟩ := p1 k hkl
   have q0 := HE12.out.cell (g1 k hkl 0 _ rfl)
   have q1 := HE12.out.cell (g1 k hkl 1 _ rfl)
   simp only [Nat.add_zero] at q0
   obtain ⟨B, hB⟩ : ∃ B, B = d.blocks[k] := ⟨_, rfl⟩
   rw [← hB] at q0 q1 hmem hbb
   have hRR : R = if (streamReadS a B.first B.bytes).2 = 0 then (if (unpackS (streamReadS a B.first B.bytes).1).2 = 0 then (if ((unpackS (streamReadS a B.first B.bytes).1).1.size : Int) < X.at_ + X.bytes then (.empty, 9) else ((unpackS (streamReadS a B.first B.bytes).1).1.extract X.at_.toNat (X.at_ + X.bytes).toNat, 0)) else (.empty, (unpackS (streamReadS a B.first B.bytes).1).2)) else (.empty, (streamReadS a B.first B.bytes).2) := by
    rw [hB]; exact hR
   obtain ⟨p, hp⟩ := Int.eq_ofNat_of_zero_le ha0
   obtain ⟨n, hn⟩ := Int.eq_ofNat_of_zero_le hn0
   rw [hp, hn] at hRR
   rw [hk, hp, hn]
   have hp6 : (p : Int) ≤ 600 := by omega
   have hn6 : (n : Int) ≤ 200 := by omega
   have hkI : (k : Int) < (d.blocks.length : Int) := by omega
   have hk10 : (k : Int) < 10 := by omega
   have HRR := Lib.hid hRR
   have HI := Lib.hid (And.intro hmem.2.1 hmem.2.2)
   have hsz := stream_small a B.first B.bytes (by omega)
   have g0 := HC2.out.cell 0
   have f0 := HB2.out.cell 0
   simp at g0 f0
   have lb1 := World.block_lt_of_cell? w2 _ q0
   simp at lb1
   clear hR hRR hB hs1 hs2 p1 g1 hmem hbb hbr hfo hp hn hk ha0 ha6 hn0 hn2
   go_wp2_with fail
   refine calls_abs (fun W => Ext w2 W ∧ Blk_ W w2.heap.size 113 #[.string X.name, .int .i64 (k : Int), .int .i64 (p : Int), .int .i64 (n : Int)]) ⟨((Ext.refl _).alloc _).alloc _, (Blk_.new _ _ _).alloc _⟩ ?_
   rintro W3 ⟨hx, hb⟩
   refine (streamRead_any [.slice A a.length c] a B.first B.bytes W3 (HH.out.up (HX2.out.trans hx)) HI.out.1 HI.out.2).mono ?_
   rintro e w3 ⟨rfl, hx3⟩
   obtain ⟨S, hS⟩ : ∃ S, S = (streamReadS a B.first B.bytes).1 := ⟨_, rfl⟩
   obtain ⟨y, hy⟩ : ∃ y, y = (streamReadS a B.first B.bytes).2 := ⟨_, rfl⟩
   rw [← hS] at hsz
   rw [← hS, ← hy] at HRR ⊢
   have HX3 := Lib.hid (HX2.out.trans (hx.trans hx3))
   have HE3 := Lib.hid (hb.ext hx3)
   clear hx hb hS hy
   clear hx3 g0 f0 q0 q1
   by_cases hy0 : y = 0
   ·subst hy0
    have HR3 := HRR.out
    rw [if_pos rfl] at HR3
    have HR4 := Lib.hid HR3
    clear HR3 HRR
    go_wp2_with fail
    refine (unpack_any S _ hsz).mono ?_
    rintro e w4 ⟨rfl, hx4⟩
    obtain ⟨T, hT⟩ : ∃ T, T = (unpackS S).1 := ⟨_, rfl⟩
    obtain ⟨z, hz⟩ : ∃ z, z = (unpackS S).2 := ⟨_, rfl⟩
    rw [← hT, ← hz] at HR4 ⊢
    have HX4 := Lib.hid (HX3.out.trans hx4)
    have HE4 := Lib.hid (HE3.out.ext hx4)
    have m2 := HE4.out.cell 2
    have m3 := HE4.out.cell 3
    simp at m2 m3
    clear hT hz hx4
    by_cases hz0 : z = 0
    ·subst hz0
     have HR5 := HR4.out
     rw [if_pos rfl] at HR5
     by_cases hov : (T.size : Int) < (p : Int) + (n : Int)
     ·rw [if_pos hov] at HR5
      have HR6 := Lib.hid HR5
      clear HR5 HR4
      go_wp2_with fail
      go_ret2
      rw [HR6.out]
      exact ⟨rfl, HX4.out⟩
     ·rw [if_neg hov] at HR5
      have x1 : ((p : Int)).toNat = p := by omega
      have x2 : ((p : Int) + (n : Int)).toNat = p + n := by omega
      have x3 : (p : Int) ≤ (p : Int) + (n : Int) := by omega
      have x4 : (p : Int) + (n : Int) ≤ (T.size : Int) := by omega
      have x5 : (0 : Int) ≤ (p : Int) + (n : Int) := by omega
      have x6 : (0 : Int) ≤ (p : Int) := by omega
      rw [x1, x2] at HR5
      obtain ⟨Z, hZ⟩ : ∃ Z, Z = T.extract p (p + n) := ⟨_, rfl⟩
      rw [← hZ] at HR5
      have HR6 := Lib.hid HR5
      have HZ := Lib.hid hZ
      clear HR5 HR4 hZ
      go_wp2_with fail
      go_ret2
      rw [HR6.out, HZ.out]
      exact ⟨rfl, HX4.out⟩
    ·have HR5 := HR4.out
     rw [if_neg hz0] at HR5
     have HR6 := Lib.hid HR5
     have hz1 : (z != 0) = true := by simp [bne, beq_false_of_ne hz0]
     clear HR5 HR4 hz0
     go_wp2_with fail
     go_ret2
     rw [HR6.out]
     exact ⟨rfl, HX4.out⟩
   ·have HR3 := HRR.out
    rw [if_neg hy0] at HR3
    have HR4 := Lib.hid HR3
    have hy1 : (y != 0) = true := by simp [bne, beq_false_of_ne hy0]
    clear HR3 HRR hy0
    go_wp2_with fail
    go_ret2
    rw [HR4.out]
    exact ⟨rfl, HX3.out⟩
  ·rw [if_neg hv0] at hR
   have HR2 := Lib.hid hR
   have hv1 : (v != 0) = true := by simp [bne, beq_false_of_ne hv0]
   clear hR hv0 hfo
   go_wp2_with fail
   go_ret2
   rw [HR2.out]
   exact ⟨rfl, HX2.out.alloc _⟩
 ·rw [if_neg hu0] at hR
  have HR2 := Lib.hid hR
  have hu1 : (u != 0) = true := by simp [bne, beq_false_of_ne hu0]
  clear hR hu0
  go_wp2_with fail
  go_ret2
  rw [HR2.out]
  exact ⟨rfl, HX1.out.alloc _⟩
theorem Ext.grownBy {w w' : World} (h : Ext w w') (row : Option Nat) : w.grownBy w' row := ⟨h.below.os, h.below.tape, h.below.output, h.below.size, fun b hb _ => h.below.block b hb⟩
def RA (k : Nat) (row : Option Nat) (i : Nat) (w w' : World) : Prop := cond (Nat.beq i k) (w.grownBy w' row) (Ext w w')
theorem RA.grown {k : Nat} {row : Option Nat} {i : Nat} {w w' : World} (h : RA k row i w w') : w.grownBy w' row := by
 unfold RA at h
 cases hb : Nat.beq i k <;> rw [hb] at h
 ·exact h.grownBy row
 ·exact h
theorem RA.ext {k : Nat} {row : Option Nat} {i : Nat} {w w' : World} (h : RA k row i w w') (hi : i ≠ k) : Ext w w' := by
 unfold RA at h
 cases hb : Nat.beq i k <;> rw [hb] at h
 ·exact h
 ·exact absurd (Nat.eq_of_beq_eq_true hb) hi
def RB (k : Nat) (row : Option Nat) (i : Nat) (w w' : World) : Prop := cond (Nat.beq i k) (Ext w w') (w.grownBy w' row)
theorem RB.of {k : Nat} {row : Option Nat} {i : Nat} {w w' : World} (h1 : w.grownBy w' row) (h2 : i = k → Ext w w') : RB k row i w w' := by
 unfold RB
 cases hb : Nat.beq i k
 ·exact h1
 ·exact h2 (Nat.eq_of_beq_eq_true hb)
section
variable {P : Program} {Q : Exit → Act → World → Prop}
def StA (k : Nat) (row : Option Nat) (P : Program) (Q : Exit → Act → World → Prop) (L : List Oper) (a0 : Act) (F : (Nat → Value) → Act) (V : List (Value → World → Prop)) (w0 : World) (i : Nat) (x : Oper) : Prop :=
 ∀ vals w, RB k row i w0 w → (∀ j, (waits x).contains j = true → At V j (vals j) w) → (∀ j, (waitsAt L j).contains i = true → vals j = oldAt a0 L j) →
  ∀ K : Act → World → Prop, (∀ a' v w', a' = (F vals).put x.dst v → At V i v w' → RA k row i w w' → K a' w') → x.wp P (F vals) w K Q
theorem wpAny_vals_goA {k0 : Nat} {row : Option Nat} {L : List Oper} {a0 : Act} {w0 : World} {F : (Nat → Value) → Act} (hF : ∀ vals, putAll a0 vals 0 L = F vals) (V : List (Value → World → Prop)) (hok : valsOk L = true)
  (hV : ∀ j p, V[j]? = some p → ∀ v w w', p v w → (if j = k0 then Ext w w' else w.grownBy w' row) → p v w') (hs : Steps (StA k0 row P Q L a0 F V w0) 0 L)
  (done : ∀ vals w, w0.grownBy w row → (∀ i, i < L.length → At V i (vals i) w) → Q .normal (F vals) w) :
  ∀ (fuel : Nat) (listed : Array Bool) (vals : Nat → Value) (w : World), listed.size = L.length → left_ listed ≤ fuel → w0.grownBy w row → (listed.getD k0 true = false → Ext w0 w) →
   (∀ i, i < L.length → listed.getD i true = true → At V i (vals i) w ∧ ∀ j, (waitsAt L i).contains j = true → listed.getD j false = true) →
   (∀ i, listed.getD i true = false → vals i = oldAt a0 L i) →
   wpAny P .any L.toArray Q fuel listed (F vals) w := by
 unfold valsOk at hok
 rw [Bool.and_eq_true, Bool.and_eq_true] at hok
 obtain ⟨⟨hap, hgu⟩, hord⟩ := hok
 have hAt : ∀ i m v w w', i ≠ m → At V i v w → RA k0 row m w w' → At V i v w' := by
  intro i m v w w' him h e
  unfold At at *
  cases hp : V[i]? with
  | none => rw [hp] at h; exact h
  | some p =>
   rw [hp] at h
   refine hV i p hp _ _ _ h ?_
   by_cases hi : i = k0
   ·rw [if_pos hi]; exact e.ext (by omega)
   ·rw [if_neg hi]; exact e.grown
 have hall : ∀ (listed : Array Bool), listed.size = L.length → Region.ready .any L.toArray listed = [] → ∀ i, i < L.length → listed.getD i true = true := by
  intro listed hsz hr i
  induction i using Nat.strongRecOn with
  | ind i ih =>
   intro hi
   cases hb : listed.getD i true with
   | true => rfl
   | false =>
    have : i ∈ Region.ready .any L.toArray listed := by
     rw [ready_mem]
     refine ⟨by simpa using hi, hb, L[i], by simp [hi], fun e he hbd => ?_⟩
     have hlt : e.on < i := by
      have h1 := List.all_eq_true.1 hord i (List.mem_range.2 hi)
      have h2 := List.all_eq_true.1 h1 e.on (by
       unfold waitsAt
       rw [List.getElem?_eq_getElem hi]
       exact List.contains_iff_mem.1 (mem_waits.2 ⟨e, he, hbd, rfl⟩))
      simpa using h2
     have := ih e.on hlt (by omega)
     have hin : e.on < listed.size := by omega
     simpa [Array.getD_eq_getD_getElem?, hin] using this
    rw [hr] at this
    cases this
 intro fuel
 induction fuel with
 | zero =>
  intro listed vals w hsz hl e hx0 hv ho
  have hno : Region.ready .any L.toArray listed = [] := by
   apply List.eq_nil_iff_forall_not_mem.2
   intro i hi
   obtain ⟨h1, h2, _⟩ := ready_mem.1 hi
   have := left_set (b := listed) (i := i) (by simpa [hsz] using h1) h2
   omega
  exact ⟨hno, done vals w e fun i hi => (hv i hi (hall listed hsz hno i hi)).1⟩
 | succ fuel ih =>
  intro listed vals w hsz hl e hx0 hv ho
  refine ⟨fun hno => done vals w e fun i hi => (hv i hi (hall listed hsz hno i hi)).1, fun i hi => ?_⟩
  obtain ⟨h1, h2, x, hx, h3⟩ := ready_mem.1 hi
  have hil : i < L.length := by simpa using h1
  have hxL : L[i]? = some x := by simpa using hx
  have hg : x.guard = none := by
   have := List.all_eq_true.1 hgu x (List.mem_of_getElem? hxL)
   simpa using this
  unfold wpOp
  rw [hx]
  simp only
  rw [if_pos (by simp [Region.wanted, hg])]
  left
  have hst := hs.at hxL
  rw [Nat.zero_add] at hst
  have hwait : ∀ j, (waits x).contains j = true → listed.getD j false = true := by
   intro j hj
   obtain ⟨ed, he1, he2, rfl⟩ := mem_waits.1 hj
   exact h3 ed he1 he2
  refine hst vals w (RB.of e (fun hik => hx0 (hik ▸ h2))) (fun j hj => ?_) (fun j hj => ?_) _ ?_
  ·have hlj := hwait j hj
   have hjs : j < L.length := by
    by_cases h : j < listed.size
    ·omega
    ·simp [Array.getD_eq_getD_getElem?, h] at hlj
   refine (hv j hjs ?_).1
   have hin : j < listed.size := by omega
   simpa [Array.getD_eq_getD_getElem?, hin] using hlj
  ·refine ho j ?_
   cases hb : listed.getD j true with
   | false => rfl
   | true =>
    by_cases hjl : j < L.length
    ·have := (hv j hjl hb).2 i hj
     have hin : i < listed.size := by omega
     simp [Array.getD_eq_getD_getElem?, hin] at this h2
     rw [this] at h2
     cases h2
    ·unfold waitsAt at hj
     rw [List.getElem?_eq_none (by omega)] at hj
     simp at hj
  ·intro a' v w' ha' hv' e'
   subst ha'
   have hput : (F vals).put x.dst v = F (upd vals i v) := by
    rw [← hF, ← hF, ← putAll_upd a0 vals v L 0 i x hap hxL, Nat.zero_add]
   rw [hput]
   refine ih _ _ _ (by simpa using hsz) (by have := left_set (b := listed) (i := i) (by omega) h2; omega) (e.trans e'.grown) (fun hk => by
    by_cases hik : i = k0
    ·subst hik
     rw [getD_set_same (by omega)] at hk
     cases hk
    ·rw [getD_set_other hik] at hk
     exact (hx0 hk).trans (e'.ext hik)) (fun k hk hkl => ?_) (fun k hk => ?_)
   ·by_cases hki : k = i
    ·subst hki
     rw [upd_same]
     refine ⟨hv', fun j hj => ?_⟩
     have hj' : (waits x).contains j = true := by
      unfold waitsAt at hj
      rw [hxL] at hj
      exact hj
     have hlj := hwait j hj'
     by_cases hjk : k = j
     ·subst hjk; exact getD_set_same (by omega) _
     ·rw [getD_set_other hjk]; exact hlj
    ·rw [upd_other _ _ hki]
     rw [getD_set_other (Ne.symm hki)] at hkl
     obtain ⟨g1, g2⟩ := hv k hk hkl
     refine ⟨hAt _ i _ _ _ hki g1 e', fun j hj => ?_⟩
     have hlj := g2 j hj
     by_cases hji : i = j
     ·subst hji; exact getD_set_same (by omega) _
     ·rw [getD_set_other hji]; exact hlj
   ·by_cases hki : k = i
    ·subst hki
     rw [getD_set_same (by omega)] at hk
     cases hk
    ·rw [upd_other _ _ hki]
     rw [getD_set_other (Ne.symm hki)] at hk
     exact ho k hk
theorem wp_region_valsA (k : Nat) (row : Option Nat) {id n : Nat} {L r : List Oper} {o : Oper} {a0 : Act} {w : World} {F : (Nat → Value) → Act} (hF : ∀ vals, putAll a0 vals 0 L.dropLast = F vals) (V : List (Value → World → Prop)) (hm : P.follows .mixedOrders = true)
  (hL : L.reverse = o :: r) (hf : lastForced L.dropLast o = true) (hn : L.length = n + 1) (hok : valsOk L.dropLast = true)
  (hV : ∀ j p, V[j]? = some p → ∀ v w w', p v w → (if j = k then Ext w w' else w.grownBy w' row) → p v w') (hs : Steps (StA k row P (LastQ P o Q) L.dropLast a0 F V w.drew) 0 L.dropLast)
  (done : ∀ vals w', w.drew.grownBy w' row → (∀ i, i < L.dropLast.length → At V i (vals i) w') → ∀ K : Act → World → Prop, (∀ a' w'', Q .normal a' w'' → K a' w'') → o.wp P (F vals) w' K Q) : (Code.region id L.toArray true).wp P Q a0 w := by
 have hn2 : L.dropLast.length = n := by rw [List.length_dropLast, hn]; rfl
 refine wp_region_any hm (wpAny_dropLast (getLast_of_reverse hL) hf hn ?_)
 have h0 : F (oldAt a0 L.dropLast) = a0 := by
  rw [← hF]
  refine putAll_old _ _ _ _ (fun i x d h1 h2 => ?_)
  rw [Nat.zero_add]
  unfold oldAt
  rw [h1]
  simp only
  rw [h2]
 have := wpAny_vals_goA (P := P) (Q := LastQ P o Q) hF V hok hV hs (fun vals w' hr ha => done vals w' hr ha _ fun _ _ h => h) n (Array.replicate n false) (oldAt a0 L.dropLast) w.drew (by simp [hn2]) (by simp [left_]) (World.grownBy.refl _ _) (fun _ => Ext.refl _)
  (fun i hi h => by
   exfalso
   rw [hn2] at hi
   simp [Array.getD_eq_getD_getElem?, Array.getElem?_replicate, hi] at h)
  (fun i _ => rfl)
 rw [h0] at this
 exact this
end
theorem flat_bound {α : Type} (f : α → List UInt8) (b : Nat) : ∀ l : List α, (∀ x ∈ l, (f x).length ≤ b) → (l.flatMap f).length ≤ b * l.length
 | [], _ => Nat.zero_le _
 | x :: l, h => by
  rw [List.flatMap_cons, List.length_append, List.length_cons, Nat.mul_succ]
  have h1 := h x (List.mem_cons_self ..)
  have h2 := flat_bound f b l (fun y hy => h y (List.mem_cons_of_mem _ hy))
  omega
theorem dec_zeros {c : Cat} (h : catFault c = 0) (n : Nat) : decCatS ((encCatS c).1 ++ bs (List.replicate n 0)) = (c, 0) := by
 rw [enc_good h]
 unfold decCatS
 rw [lst_append, lst_bs, lst_bs, cat_back c h, if_pos (by rw [List.all_replicate]; simp)]
theorem nextAt_ge : ∀ (l : List Blk) (p : Int), (∀ b ∈ l, 0 ≤ b.bytes) → p ≤ nextAt p l
 | [], p, _ => Int.le_refl p
 | b :: l, p, h => by
  have h0 := h b (List.mem_cons_self ..)
  have := nextAt_ge l (p + secs b.bytes) (fun x hx => h x (List.mem_cons_of_mem _ hx))
  show p ≤ nextAt (p + secs b.bytes) l
  unfold secs at *
  omega
end Go.Proofs.YtgjijcgkmofaaaaGreatDoor
namespace Go.Proofs.YtgjijcgkmofaaaaGreatDoor
set_option linter.unusedSimpArgs false
set_option linter.unusedVariables false
set_option maxRecDepth 100000
set_option maxHeartbeats 8000000
open Go.RowKit Go.ChangeShapes Go.WideShapes Go.ChangeAt Go.Deep
section
variable {H : Type} {enc : TypeId × Value → H} {w : World} {spare : Nat → Bool}
theorem opensRaw : Opens H enc Tryz.prog w spare 82 RRaw := by
 intro fuel cs x h hz
 obtain ⟨hlen, hf⟩ := opens_fields Tryz.underlying82 h hz
 rw [show Tryz.prog.cellsOf 82 = 4 by kernel_rfl] at hlen
 obtain ⟨n0, y0, t0', z0'⟩ := hf 0 _ rfl
 have t0 : DataW.trod enc Tryz.prog w 0 spare true n0 3 ((cs.drop 0).take (Tryz.prog.cellsOf 3)) = some y0 := t0'
 have z0 : ∀ k ∈ y0.1.weights Tryz.prog 3, k ≤ reachBytes := z0'
 clear t0' z0'
 rw [show Tryz.prog.cellsOf 3 = 1 by kernel_rfl] at t0
 obtain ⟨n1, y1, t1', z1'⟩ := hf 1 _ rfl
 have t1 : DataW.trod enc Tryz.prog w 0 spare true n1 3 ((cs.drop 1).take (Tryz.prog.cellsOf 3)) = some y1 := t1'
 have z1 : ∀ k ∈ y1.1.weights Tryz.prog 3, k ≤ reachBytes := z1'
 clear t1' z1'
 rw [show Tryz.prog.cellsOf 3 = 1 by kernel_rfl] at t1
 obtain ⟨n2, y2, t2', z2'⟩ := hf 2 _ rfl
 have t2 : DataW.trod enc Tryz.prog w 0 spare true n2 3 ((cs.drop 2).take (Tryz.prog.cellsOf 3)) = some y2 := t2'
 have z2 : ∀ k ∈ y2.1.weights Tryz.prog 3, k ≤ reachBytes := z2'
 clear t2' z2'
 rw [show Tryz.prog.cellsOf 3 = 1 by kernel_rfl] at t2
 obtain ⟨n3, y3, t3', z3'⟩ := hf 3 _ rfl
 have t3 : DataW.trod enc Tryz.prog w 0 spare true n3 3 ((cs.drop 3).take (Tryz.prog.cellsOf 3)) = some y3 := t3'
 have z3 : ∀ k ∈ y3.1.weights Tryz.prog 3, k ≤ reachBytes := z3'
 clear t3' z3'
 rw [show Tryz.prog.cellsOf 3 = 1 by kernel_rfl] at t3
 obtain ⟨u0, u1, u2, u3, rfl⟩ := len4 hlen
 clear hf h hz
 obtain ⟨a0, r0⟩ := (opens_int Tryz.underlying3) n0 _ y0 t0 z0
 obtain ⟨a1, r1⟩ := (opens_int Tryz.underlying3) n1 _ y1 t1 z1
 obtain ⟨a2, r2⟩ := (opens_int Tryz.underlying3) n2 _ y2 t2 z2
 obtain ⟨a3, r3⟩ := (opens_int Tryz.underlying3) n3 _ y3 t3 z3
 obtain ⟨e0, r0⟩ := r0
 obtain ⟨e1, r1⟩ := r1
 obtain ⟨e2, r2⟩ := r2
 obtain ⟨e3, r3⟩ := r3
 refine ⟨⟨a0, a1, a2, a3⟩, ?_, r0, r1, r2, r3⟩
 have e0' : u0 = .int .i64 a0 := by simpa using e0
 have e1' : u1 = .int .i64 a1 := by simpa using e1
 have e2' : u2 = .int .i64 a2 := by simpa using e2
 have e3' : u3 = .int .i64 a3 := by simpa using e3
 rw [e0', e1', e2', e3']
theorem opensRaws : Opens H enc Tryz.prog w spare 22 (fun w cs (l : List Raw4) => ∃ v, cs = [v] ∧ SlR 4 32 RRaw w v l) :=
 opens_slice Tryz.underlying22 (by kernel_rfl) (by decide) (by kernel_rfl) opensRaw
end
end Go.Proofs.YtgjijcgkmofaaaaGreatDoor
namespace Go.Proofs.YtgjijcgkmofaaaaGreatDoor
set_option linter.unusedSimpArgs false
set_option linter.unusedVariables false
set_option maxRecDepth 100000
set_option maxHeartbeats 8000000
open Go.RowKit
theorem enc_pad (no : Int) {s : ByteArray} (h : s.size ≤ 24) : encodeS no (padS s) = encodeS no s := by
 have hp := padS_size h
 have e : rawS no (padS s) = rawS no s := by
  unfold rawS
  rw [hp, Nat.sub_self, List.replicate_zero, List.append_nil]
  unfold padS
  rw [lst_bs]
 unfold encodeS
 rw [hp, e, if_neg (show ¬ 24 < 24 by decide), if_neg (show ¬ 24 < s.size by omega)]
theorem xorS_comm (s t : ByteArray) : xorS s t = xorS t s := by
 unfold xorS
 congr 1
 rw [List.zipWith_comm]
 congr 1
 funext a b
 exact UInt8.xor_comm _ _
theorem xor_back (l k : List UInt8) (h : l.length = k.length) : List.zipWith (fun a b => a ^^^ b) (List.zipWith (fun a b => a ^^^ b) l k) k = l := by
 induction l generalizing k with
 | nil => rfl
 | cons a l ih =>
  cases k with
  | nil => simp at h
  | cons b k =>
   simp only [List.zipWith_cons_cons]
   rw [ih k (by simpa using h)]
   congr 1
   rw [UInt8.xor_assoc, UInt8.xor_self, UInt8.xor_zero]
theorem xorS_back {s t : ByteArray} (h : s.size = t.size) : xorS (xorS s t) t = s := by
 unfold xorS
 rw [lst_bs, xor_back _ _ (by rw [length_lst, length_lst]; exact h), bs_lst]
def Sound (d : Dev) (n : Nat) (no : Int) (s : ByteArray) : Prop := d.sec.getD n .empty = (encodeS no s).1 ∧ d.lost.getD n false = false
theorem Sound.read {d : Dev} {n : Nat} {no : Int} {s : ByteArray} (h : Sound d n no s) (ht : touchCode d n = 0) (h0 : 0 ≤ no) (h1 : no ≤ 65535) (hs : s.size = 24) : readS d n no = (s, 0) := by
 rw [read_eq no ht, show ((n : Int)).toNat = n from rfl, h.2, if_neg (by decide), h.1, decode_encode _ _ _ h0 h1 (by omega), if_pos rfl, padS_full hs]
theorem Sound.write {d : Dev} {n : Nat} {no : Int} {s : ByteArray} (ht : touchCode d n = 0) (h0 : 0 ≤ no) (h1 : no ≤ 65535) (hs : s.size ≤ 24) : Sound (writeS d n no s).1 n no (padS s) := by
 obtain ⟨hm, hn, hl⟩ := touch_zero ht
 obtain ⟨m1, m2, m3, m4⟩ := devMay_len hm
 rw [writeS_ok ht h0 h1 hs]
 refine ⟨?_, ?_⟩
 ·rw [enc_pad no hs]
  exact getD_set_self _ _ _ _ (by simpa using hl)
 ·exact getD_set_self _ _ _ _ (by rw [m3]; simpa using hl)
theorem Sound.write_other {d : Dev} {n k : Nat} {no no' : Int} {s t : ByteArray} (h : Sound d k no' t) (ht : touchCode d n = 0) (h0 : 0 ≤ no) (h1 : no ≤ 65535) (hs : s.size ≤ 24) (hne : n ≠ k) : Sound (writeS d n no s).1 k no' t := by
 rw [writeS_ok ht h0 h1 hs]
 refine ⟨?_, ?_⟩
 ·exact (getD_set_ne _ _ _ _ _ (by simpa using hne)).trans h.1
 ·exact (getD_set_ne _ _ _ _ _ (by simpa using hne)).trans h.2
def pl (all : List ByteArray) (n : Nat) : ByteArray := all.getD n .empty
def pp (all : List ByteArray) (n : Nat) : ByteArray := xorS (pl all (2 * n)) (pl all (2 * n + 1))
structure Full (a : List Dev) (m : Nat) (all : List ByteArray) : Prop where
 good : Good a m
 len : all.length = m
 size : ∀ n : Nat, n < m → (pl all n).size = 24
 s0 : ∀ n : Nat, n < m → Sound (dv a 0) n n (pl all n)
 s1 : ∀ n : Nat, n < m → Sound (dv a 1) n n (pl all n)
 s2 : ∀ n : Nat, n < m / 2 → Sound (dv a 2) n (512 + n) (pp all n)
theorem pl_set_self {all : List ByteArray} {n : Nat} (h : n < all.length) (s : ByteArray) : pl (all.set n s) n = s := getD_set_self _ _ _ _ h
theorem pl_set_ne (all : List ByteArray) {n k : Nat} (h : n ≠ k) (s : ByteArray) : pl (all.set n s) k = pl all k := getD_set_ne _ _ _ _ _ h
theorem pp_size {all : List ByteArray} {m n : Nat} (h : ∀ n : Nat, n < m → (pl all n).size = 24) (hn : n < m / 2) : (pp all n).size = 24 := by
 unfold pp
 rw [xorS_size (by rw [h _ (by omega), h _ (by omega)]), h _ (by omega)]
theorem pp_set_other (all : List ByteArray) {n k : Nat} (h : n / 2 ≠ k) (s : ByteArray) : pp (all.set n s) k = pp all k := by
 unfold pp
 rw [pl_set_ne _ (by omega), pl_set_ne _ (by omega)]
def pt (n : Nat) : Nat := if n % 2 = 0 then n + 1 else n - 1
theorem partner_pt (n : Nat) : partner n = (pt n : Int) := by
 unfold partner pt
 by_cases h : n % 2 = 0
 ·rw [if_pos h, if_pos (by omega)]; omega
 ·rw [if_neg h, if_neg (by omega)]; omega
theorem pt_facts (n : Nat) : pt n ≠ n ∧ pt n / 2 = n / 2 ∧ pt (pt n) = n := by
 unfold pt
 by_cases h : n % 2 = 0
 ·rw [if_pos h, if_neg (by omega)]; omega
 ·rw [if_neg h, if_pos (by omega)]; omega
theorem pt_lt {n m : Nat} (h : n < m) (h2 : m % 2 = 0) : pt n < m := by
 unfold pt
 split <;> omega
theorem pp_eq (all : List ByteArray) (n : Nat) : pp all (n / 2) = xorS (pl all n) (pl all (pt n)) := by
 unfold pp pt
 by_cases h : n % 2 = 0
 ·rw [if_pos h, show 2 * (n / 2) = n by omega]
 ·rw [if_neg h, show 2 * (n / 2) = n - 1 by omega, show n - 1 + 1 = n by omega, xorS_comm]
structure Part (a : List Dev) (m : Nat) (all : List ByteArray) : Prop where
 good : Good a m
 len : all.length = m
 size : ∀ n : Nat, n < m → (pl all n).size = 24
 r0 : ∀ n : Nat, n < m → (readS (dv a 0) n n).2 = 0 → (readS (dv a 0) n n).1 = pl all n
 r1 : ∀ n : Nat, n < m → (readS (dv a 1) n n).2 = 0 → (readS (dv a 1) n n).1 = pl all n
 r2 : ∀ n : Nat, n < m / 2 → (readS (dv a 2) n (512 + n : Int)).2 = 0 → (readS (dv a 2) n (512 + n : Int)).1 = pp all n
theorem Good.touch2 {a : List Dev} {m : Nat} (h : Good a m) {n : Nat} (h1 : n < m / 2) : touchCode (dv a 2) n = 0 := touch_iff.2 ⟨h.m2, by omega, by rw [h.l2]; omega⟩
theorem Full.reads {a : List Dev} {m : Nat} {all : List ByteArray} (h : Full a m all) (h64 : m ≤ 64) :
  (∀ n : Nat, n < m → readS (dv a 0) n n = (pl all n, 0)) ∧ (∀ n : Nat, n < m → readS (dv a 1) n n = (pl all n, 0)) ∧ ∀ n : Nat, n < m / 2 → readS (dv a 2) n (512 + n : Int) = (pp all n, 0) :=
 ⟨fun n hn => (h.s0 n hn).read (h.good.touch (by omega) (by omega)).1 (by omega) (by omega) (h.size n hn), fun n hn => (h.s1 n hn).read (h.good.touch (by omega) (by omega)).2 (by omega) (by omega) (h.size n hn),
  fun n hn => (h.s2 n hn).read (h.good.touch2 hn) (by omega) (by omega) (pp_size h.size hn)⟩
theorem Good.arr {a : List Dev} {m : Nat} (h : Good a m) (h16 : 16 ≤ m) (h2 : m % 2 = 0) {n : Nat} (hn : n < m) : arrTouch a n = 0 := arrTouch_zero.2 ⟨h.may h16 h2, by omega, by rw [h.l0]; omega⟩
theorem Part.mirror {a : List Dev} {m : Nat} {all : List ByteArray} (h : Part a m all) {n : Nat} (hn : n < m) :
  ((readS (dv a 0) n n).2 = 0 ∧ mirrorS a n = (pl all n, 1)) ∨ ((readS (dv a 0) n n).2 ≠ 0 ∧ (readS (dv a 1) n n).2 = 0 ∧ mirrorS a n = (pl all n, 2)) ∨ ((readS (dv a 0) n n).2 ≠ 0 ∧ (readS (dv a 1) n n).2 ≠ 0 ∧ mirrorS a n = (.empty, 0)) := by
 unfold mirrorS
 by_cases h0 : (readS (dv a 0) n n).2 = 0
 ·left; rw [if_pos h0, h.r0 n hn h0]; exact ⟨h0, rfl⟩
 ·right
  rw [if_neg h0]
  by_cases h1 : (readS (dv a 1) n n).2 = 0
  ·left; rw [if_pos h1, h.r1 n hn h1]; exact ⟨h0, h1, rfl⟩
  ·right; rw [if_neg h1]; exact ⟨h0, h1, rfl⟩
theorem Part.read {a : List Dev} {m : Nat} {all : List ByteArray} (h : Part a m all) (h16 : 16 ≤ m) (h64 : m ≤ 64) (h2 : m % 2 = 0) {n : Nat} (hn : n < m) :
  ((readS (dv a 0) n n).2 = 0 ∧ arrReadS a n = (pl all n, 1, 0)) ∨ ((readS (dv a 0) n n).2 ≠ 0 ∧ (readS (dv a 1) n n).2 = 0 ∧ arrReadS a n = (pl all n, 2, 0)) ∨
  ((readS (dv a 0) n n).2 ≠ 0 ∧ (readS (dv a 1) n n).2 ≠ 0 ∧ (((mirrorS a (pt n : Int)).2 = 0 ∨ (readS (dv a 2) (n / 2 : Nat) (512 + (n / 2 : Nat) : Int)).2 ≠ 0) ∧ arrReadS a n = (.empty, 0, 11) ∨
    ((mirrorS a (pt n : Int)).2 ≠ 0 ∧ (readS (dv a 2) (n / 2 : Nat) (512 + (n / 2 : Nat) : Int)).2 = 0) ∧ arrReadS a n = (pl all n, 3, 0))) := by
 have ht := h.good.arr h16 h2 hn
 have hq : ((n : Int) / 2) = ((n / 2 : Nat) : Int) := by omega
 unfold arrReadS
 rw [if_neg (by simpa using ht)]
 rcases h.mirror hn with ⟨a0, e⟩ | ⟨a0, a1, e⟩ | ⟨a0, a1, e⟩
 ·left; rw [e, if_pos (by show (1 : Int) ≠ 0; decide)]; exact ⟨a0, rfl⟩
 ·right; left; rw [e, if_pos (by show (2 : Int) ≠ 0; decide)]; exact ⟨a0, a1, rfl⟩
 ·right; right
  refine ⟨a0, a1, ?_⟩
  rw [e, if_neg (by show ¬ (0 : Int) ≠ 0; decide), partner_pt]
  unfold parS
  rw [hq]
  by_cases hc : (mirrorS a (pt n : Int)).2 = 0 ∨ (readS (dv a 2) ((n / 2 : Nat) : Int) (512 + ((n / 2 : Nat) : Int))).2 ≠ 0
  ·left; rw [if_pos hc]; exact ⟨hc, rfl⟩
  ·right
   have hc' : (mirrorS a (pt n : Int)).2 ≠ 0 ∧ (readS (dv a 2) ((n / 2 : Nat) : Int) (512 + ((n / 2 : Nat) : Int))).2 = 0 := by
    constructor
    ·exact fun h => hc (.inl h)
    ·exact Decidable.byContradiction fun h => hc (.inr h)
   rw [if_neg hc]
   refine ⟨hc', ?_⟩
   have hp := pt_lt hn h2
   have hpn := h.size n hn
   have hpp := h.size (pt n) hp
   have e2 : (mirrorS a (pt n : Int)).1 = pl all (pt n) := by
    rcases h.mirror hp with ⟨_, e⟩ | ⟨_, _, e⟩ | ⟨_, _, e⟩
    ·rw [e]
    ·rw [e]
    ·rw [e] at hc'; exact absurd rfl hc'.1
   rw [e2, h.r2 (n / 2) (by omega) hc'.2, pp_eq, xorS_back (by rw [hpn, hpp])]
theorem full_new {m : Nat} (h16 : 16 ≤ m) (h64 : m ≤ 64) (h2 : m % 2 = 0) : Full [freshDev m 0, freshDev m 0, freshDev (m / 2) 512] m (List.replicate m (bs (List.replicate 24 0))) := by
 have hpl : ∀ n : Nat, n < m → pl (List.replicate m (bs (List.replicate 24 0))) n = bs (List.replicate 24 0) := by
  intro n hn
  unfold pl
  rw [List.getD_eq_getElem?_getD, List.getElem?_replicate, if_pos hn]; rfl
 have hpe : padS .empty = bs (List.replicate 24 0) := rfl
 have hxe : xorS (bs (List.replicate 24 0)) (bs (List.replicate 24 0)) = bs (List.replicate 24 0) := by decide
 have hsnd : ∀ (mm n : Nat) (f : Int), n < mm → Sound (freshDev mm f) n (f + n) (bs (List.replicate 24 0)) := by
  intro mm n f hn
  refine ⟨?_, fresh_lost _ _ _⟩
  rw [fresh_sec mm f n hn, ← hpe, enc_pad _ (by decide)]
 refine ⟨⟨rfl, fresh_may m 0 (by omega) (by omega) (by omega) (by omega), fresh_may m 0 (by omega) (by omega) (by omega) (by omega), fresh_may (m / 2) 512 (by omega) (by omega) (by omega) (by omega), fresh_len _ _, fresh_len _ _, fresh_len _ _⟩, by simp, fun n hn => ?_, fun n hn => ?_, fun n hn => ?_, fun n hn => ?_⟩
 ·rw [hpl n hn, size_bs]; rfl
 ·rw [hpl n hn]; have := hsnd m n 0 hn; rw [Int.zero_add] at this; exact this
 ·rw [hpl n hn]; have := hsnd m n 0 hn; rw [Int.zero_add] at this; exact this
 ·have : pp (List.replicate m (bs (List.replicate 24 0))) n = bs (List.replicate 24 0) := by
   unfold pp; rw [hpl _ (by omega), hpl _ (by omega), hxe]
  rw [this]; exact hsnd (m / 2) n 512 hn
theorem Good.dev {a : List Dev} {m : Nat} (h : Good a m) {j : Nat} {d : Dev} (hj : j < 3) (hd : devMay d = true) (hl : d.sec.length = (dv a j).sec.length) : Good (a.set j d) m := by
 have h3 := h.len
 have e : ∀ i, dv (a.set j d) i = if i = j then d else dv a i := by
  intro i
  by_cases hi : i = j
  ·subst hi; rw [if_pos rfl, dv_set_self (by omega)]
  ·rw [if_neg hi, dv_set_ne _ (fun e => hi e.symm)]
 refine ⟨by rw [List.length_set]; exact h3, ?_, ?_, ?_, ?_, ?_, ?_⟩
 ·rw [e]; split; exact hd; exact h.m0
 ·rw [e]; split; exact hd; exact h.m1
 ·rw [e]; split; exact hd; exact h.m2
 ·rw [e]; split
  ·rename_i hh; rw [hl, ← hh]; exact h.l0
  ·exact h.l0
 ·rw [e]; split
  ·rename_i hh; rw [hl, ← hh]; exact h.l1
  ·exact h.l1
 ·rw [e]; split
  ·rename_i hh; rw [hl, ← hh]; exact h.l2
  ·exact h.l2
theorem Part.mirror_ok {a : List Dev} {m : Nat} {all : List ByteArray} (h : Part a m all) {n : Nat} (hn : n < m) (hr : (readS (dv a 0) n n).2 = 0 ∨ (readS (dv a 1) n n).2 = 0) : (mirrorS a n).2 ≠ 0 := by
 rcases h.mirror hn with ⟨_, e⟩ | ⟨_, _, e⟩ | ⟨a0, a1, e⟩
 ·rw [e]; show (1 : Int) ≠ 0; decide
 ·rw [e]; show (2 : Int) ≠ 0; decide
 ·rcases hr with h | h
  ·exact absurd h a0
  ·exact absurd h a1
theorem Part.read_ok {a : List Dev} {m : Nat} {all : List ByteArray} (h : Part a m all) (h16 : 16 ≤ m) (h64 : m ≤ 64) (h2 : m % 2 = 0) {n : Nat} (hn : n < m) (hr : (readS (dv a 0) n n).2 = 0 ∨ (readS (dv a 1) n n).2 = 0) : ∃ how, (how = 1 ∨ how = 2) ∧ arrReadS a n = (pl all n, how, 0) := by
 rcases h.read h16 h64 h2 hn with ⟨_, e⟩ | ⟨_, _, e⟩ | ⟨a0, a1, _⟩
 ·exact ⟨1, .inl rfl, e⟩
 ·exact ⟨2, .inr rfl, e⟩
 ·rcases hr with h | h
  ·exact absurd h a0
  ·exact absurd h a1
end Go.Proofs.YtgjijcgkmofaaaaGreatDoor
namespace Go.Proofs.YtgjijcgkmofaaaaGreatDoor
set_option linter.unusedSimpArgs false
set_option linter.unusedVariables false
set_option maxRecDepth 100000
set_option maxHeartbeats 8000000
open Go.Shelf
def Tryz.laysM171_ren : Go.Shelf.Ren := ⟨fun | 171 => 43 | 243 => 71 | 246 => 118 | 283 => 153 | 284 => 154 | 285 => 155 | 286 => 156 | 129 => 116 | 317 => 175 | 318 => 176 | 319 => 177 | 320 => 178 | 337 => 193 | 338 => 194 | n => n, fun | 3 => 3 | 9 => 9 | 2 => 2 | 4 => 4 | 171 => 218 | 0 => 0 | 53 => 178 | 37 => 95 | 5 => 5 | 173 => 220 | 212 => 240 | 51 => 176 | 20 => 20 | 213 => 241 | 46 => 129 | 232 => 256 | 233 => 257 | n => n, fun | 17 => 1 | 18 => 2 | 19 => 3 | n => n⟩
theorem Tryz.laysM171 : Go.Proofs.LaysM.n171 Tryz.prog Tryz.laysM171_ren := {
 mixed := by kernel_rfl
 f129 := Tryz.func116.trans (congrArg some (by kernel_rfl))
 f171 := Tryz.func43.trans (congrArg some (by kernel_rfl))
 f243 := Tryz.func71.trans (congrArg some (by kernel_rfl))
 f246 := Tryz.func118.trans (congrArg some (by kernel_rfl))
 f283 := Tryz.func153.trans (congrArg some (by kernel_rfl))
 f284 := Tryz.func154.trans (congrArg some (by kernel_rfl))
 f285 := Tryz.func155.trans (congrArg some (by kernel_rfl))
 f286 := Tryz.func156.trans (congrArg some (by kernel_rfl))
 f317 := Tryz.func175.trans (congrArg some (by kernel_rfl))
 f318 := Tryz.func176.trans (congrArg some (by kernel_rfl))
 f319 := Tryz.func177.trans (congrArg some (by kernel_rfl))
 f320 := Tryz.func178.trans (congrArg some (by kernel_rfl))
 f337 := Tryz.func193.trans (congrArg some (by kernel_rfl))
 f338 := Tryz.func194.trans (congrArg some (by kernel_rfl))
 t0 := Tryz.underlying0
 a0 := Tryz.isAgg0
 z0 := Tryz.sizeOf0
 v0 := Tryz.zeroValue0
 t2 := Tryz.underlying2
 a2 := Tryz.isAgg2
 z2 := Tryz.sizeOf2
 v2 := Tryz.zeroValue2
 t3 := Tryz.underlying3
 a3 := Tryz.isAgg3
 z3 := Tryz.sizeOf3
 v3 := Tryz.zeroValue3
 t4 := Tryz.underlying4
 a4 := Tryz.isAgg4
 z4 := Tryz.sizeOf4
 v4 := Tryz.zeroValue4
 t5 := Tryz.underlying5
 a5 := Tryz.isAgg5
 z5 := Tryz.sizeOf5
 v5 := Tryz.zeroValue5
 t9 := Tryz.underlying9
 a9 := Tryz.isAgg9
 z9 := Tryz.sizeOf9
 v9 := Tryz.zeroValue9
 t20 := Tryz.underlying20
 a20 := Tryz.isAgg20
 z20 := Tryz.sizeOf20
 v20 := Tryz.zeroValue20
 t37 := Tryz.underlying95
 a37 := Tryz.isAgg95
 z37 := Tryz.sizeOf95
 v37 := Tryz.zeroValue95
 t46 := Tryz.underlying129
 a46 := Tryz.isAgg129
 z46 := Tryz.sizeOf129
 v46 := Tryz.zeroValue129
 t51 := Tryz.underlying176
 a51 := Tryz.isAgg176
 z51 := Tryz.sizeOf176
 v51 := Tryz.zeroValue176
 t53 := Tryz.underlying178
 a53 := Tryz.isAgg178
 z53 := Tryz.sizeOf178
 v53 := Tryz.zeroValue178
 t171 := Tryz.underlying218
 a171 := Tryz.isAgg218
 z171 := Tryz.sizeOf218
 v171 := Tryz.zeroValue218
 t173 := Tryz.underlying220
 a173 := Tryz.isAgg220
 z173 := Tryz.sizeOf220
 v173 := Tryz.zeroValue220
 t212 := Tryz.underlying240
 a212 := Tryz.isAgg240
 z212 := Tryz.sizeOf240
 v212 := Tryz.zeroValue240
 t213 := Tryz.underlying241
 a213 := Tryz.isAgg241
 z213 := Tryz.sizeOf241
 t232 := Tryz.underlying256
 a232 := Tryz.isAgg256
 z232 := Tryz.sizeOf256
 v232 := Tryz.zeroValue256
 t233 := Tryz.underlying257
 a233 := Tryz.isAgg257
 z233 := Tryz.sizeOf257
 v233 := Tryz.zeroValue257
 g17 := by kernel_rfl
 g18 := by kernel_rfl
 g19 := by kernel_rfl
 i0 := by kernel_rfl
 i2 := by kernel_rfl
 i3 := by kernel_rfl
 i4 := by kernel_rfl
 i5 := by kernel_rfl
 i9 := by kernel_rfl
 i20 := by kernel_rfl
 i37 := by kernel_rfl
 i46 := by kernel_rfl
 i51 := by kernel_rfl
 i53 := by kernel_rfl
 i171 := by kernel_rfl
 i173 := by kernel_rfl
 i212 := by kernel_rfl
 i232 := by kernel_rfl
 i233 := by kernel_rfl
 m17 := by kernel_rfl
 m18 := by kernel_rfl
 m19 := by kernel_rfl }
open Go.RowKit Go.Sort Go.Lib in
theorem Tryz.strconv_Itoa (n : Int) (h0 : -9223372036854775808 ≤ n) (h1 : n ≤ 9223372036854775807) (w : World) (htab : Lib.TabIs Tryz.prog w "internal/strconv.uint64pow10" .u64 Lib.pow10Tab) :
  Calls Tryz.prog 43 #[.int .i64 n] w fun e w' => e = .returned (.string ⟨(Lib.itoa n).toArray⟩) ∧ ∃ k os, w' = grow (w.drewN k) os := Any.strconv_Itoa Tryz.laysM171 n h0 h1 w htab

end Go.Proofs.YtgjijcgkmofaaaaGreatDoor
