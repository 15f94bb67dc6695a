/-
  arraskeep.Hurts: acts that hurt one device: of each sector at most one byte is turned. Conditions: the first argument reads as a list of raw numbers, the others are a device, a number of sectors, and at most 1000 acts.
-/
import Derived.Test.YtgjijcgkmofaaaaGreatDoorU14
import Derived.Maps.Own
import Derived.Maps.Views
namespace Go.Proofs.YtgjijcgkmofaaaaGreatDoor
set_option linter.unusedSimpArgs false
set_option linter.unusedVariables false
set_option maxRecDepth 100000
set_option maxHeartbeats 8000000
open Go.RowKit Go.Maps
theorem info_act : (Tryz.prog.info? 39).map (fun i => (i.zero, i.size, i.bytes)) = some (some (.agg #[.int .i64 0, .slice none 0 0, .string .empty, .int .i64 0, .int .i64 0, .int .i64 0, .int .i64 0]), 7, 80) := by kernel_rfl
theorem size_drew_ (w : World) : w.drew.heap.size = w.heap.size := rfl
theorem law_int : Keyed Tryz.prog 3 := int_keyed Tryz.underlying3
theorem keyOf_n (n : Nat) (h : (n : Int) < 64) : keyOf Tryz.prog 3 (.int .i64 (n : Int)) = some (.int .i64 (n : Int)) := keyOf_int_mk Tryz.underlying3 (WalkArith.wf_i64 (by omega))
def Marks (w : World) (bm n : Nat) (T : List Int) : Prop := ∃ D : DataW Unit, w.ownsMap Tryz.prog 3 (plainElem Tryz.prog 4) bm n D ∧ ∀ x : Int, I64 x → D.atKey (.int .i64 x) (.lit (.bool false)) = .lit (.bool (T.contains x))
theorem Marks.made (w : World) : Marks (w.alloc (.map #[] 0)) w.heap.size 0 [] := ⟨_, World.ownsMap_made _ _ _ _, fun _ _ => rfl⟩
theorem Marks.grown {w w' : World} {bm n : Nat} {T : List Int} {row : Option Nat} (h : Marks w bm n T) (hg : w.grownBy w' row) (hne : some bm ≠ row) : Marks w' bm n T := by
 obtain ⟨D, ho, hd⟩ := h
 exact ⟨D, ho.kept hg hne, hd⟩
theorem Marks.lt {w : World} {bm n : Nat} {T : List Int} (h : Marks w bm n T) : bm < w.heap.size := by
 obtain ⟨D, ho, _⟩ := h
 exact ho.lt
theorem Marks.mono {w : World} {bm n n' : Nat} {T : List Int} (h : Marks w bm n T) (hn : n ≤ n') : Marks w bm n' T := by
 obtain ⟨D, ho, hd⟩ := h
 exact ⟨D, ho.mono hn, hd⟩
theorem Marks.congr {w : World} {bm n : Nat} {T T' : List Int} (h : Marks w bm n T) (he : ∀ x, T.contains x = T'.contains x) : Marks w bm n T' := by
 obtain ⟨D, ho, hd⟩ := h
 exact ⟨D, ho, fun x hx => by rw [hd x hx, he]⟩
theorem plainElem_bool_inv {P : Program} {e : TypeId} (he : P.underlying e = some .bool) {v : Value} {z : DataW Unit × List MemPlace} (h : plainElem P e v = some z) : ∃ x, v = .bool x ∧ z = (.lit (.bool x), []) := by
 unfold plainElem at h
 rw [he] at h
 cases v <;> simp at h
 subst h
 exact ⟨_, rfl, rfl⟩
theorem zero_bool (w : World) : (zeroValue 4).run Tryz.prog w = .ok (.bool false) w := by kernel_rfl
theorem Marks.look {w : World} {bm n : Nat} {T : List Int} (h : Marks w bm n T) (x : Int) (hx : I64 x) : (Instr.lookup 80 (.map (some bm)) (.int .i64 x) false).run Tryz.prog w = .ok (.bool (T.contains x)) w := by
 obtain ⟨D, ho, hd⟩ := h
 obtain ⟨v, ps, hrun, hv⟩ := ho.lookup law_int Tryz.underlying80 (zero_bool w) (plainElem_bool Tryz.underlying4 false) (keyOf_int_mk Tryz.underlying3 (WalkArith.wf_i64 (by unfold I64 at hx; omega)))
 obtain ⟨y, rfl, hz⟩ := plainElem_bool_inv Tryz.underlying4 hv
 rw [hd x hx] at hz
 simp only [Prod.mk.injEq] at hz
 have : T.contains x = y := by
  have h1 := hz.1
  injection h1 with h1
  injection h1
 rw [this]
 exact hrun
theorem Marks.put {w w' : World} {bm n : Nat} {T : List Int} {D : DataW Unit} {x : Int} (h : w.ownsMap Tryz.prog 3 (plainElem Tryz.prog 4) bm n D ∧ ∀ x : Int, I64 x → D.atKey (.int .i64 x) (.lit (.bool false)) = .lit (.bool (T.contains x)))
  (h' : w'.ownsMap Tryz.prog 3 (plainElem Tryz.prog 4) bm (n + 1) (D.put (.int .i64 x) (.lit (.bool true)))) : Marks w' bm (n + 1) (x :: T) := by
 refine ⟨_, h', fun y hy => ?_⟩
 by_cases he : y = x
 ·subst he
  have hD : IsMap D := by
   obtain ⟨es, clock, _, _, _, hDD⟩ := h.1
   exact ⟨_, hDD⟩
  rw [atKey_put_same hD (law_int.key (keyOf_int_mk Tryz.underlying3 (WalkArith.wf_i64 (by unfold I64 at hy; omega))))]
  simp
 ·rw [atKey_put_other (by intro e; injection e with _ e; exact he e), h.2 y hy]
  simp [he]
theorem hurts_any (v : Value) (l : List Raw4) (d m most : Nat) (w : World) (h : SlR 4 32 RRaw w v l) (hd : d < 3) (h16 : 16 ≤ m) (h64 : m ≤ 64) (hmo : most ≤ 1000) :
  Calls Tryz.prog 15 #[v, .int .i64 (d : Int), .int .i64 (m : Int), .int .i64 (most : Int)] w fun e w' => ∃ A c L, e = .returned (.slice A L.length c) ∧ Ext w w' ∧ w'.ownsRow (w.heap.size + 1) 39 7 (.slice A L.length c) L.length (L.flatMap encHA) ∧ (∀ x ∈ L, ActOk d (if d = 2 then m / 2 else m) x) ∧ (turned L).Nodup ∧ L.length ≤ most := by
 have hmem := h.mem encRw_ok w
 obtain ⟨A0, c0, rfl, hlb, hlc, p0⟩ := h.rowE encRw_ok
 have HMM := Lib.hid hmem
 have HP := Lib.hid p0
 have HMO := Lib.hid hmo
 obtain ⟨i1, hi0, hz0, hz1, hz2⟩ := info_parts info_act
 have HIE := Lib.hid (And.intro hi0 (And.intro hz0 (And.intro hz1 hz2)))
 have hll : (l.length : Int) ≤ 140737488355328 := by omega
 have hmoI : (most : Int) ≤ 1000 := by omega
 clear h hmem p0 hlb hlc hi0 hz0 hz1 hz2
 have hmm := @run_makeMap Tryz.prog
 by_cases h2 : d = 2
 focus
  subst h2
  rw [if_pos rfl]
  obtain ⟨q, hq⟩ : ∃ q, q = m / 2 := ⟨_, rfl⟩
  have hqm : (m : Int) / 2 = (q : Int) := by omega
  have hq64 : (q : Int) ≤ 64 := by omega
  have hq1 : (1 : Int) ≤ (q : Int) := by omega
  rw [← hq]
  clear hq h16 h64 hmo hd
  obtain ⟨d, hd2⟩ : ∃ d : Nat, d = 2 := ⟨_, rfl⟩
  rw [← hd2]
  have hdI : ((d : Int) == 2) = true := by rw [hd2]; rfl
  clear hd2
 rotate_left
 focus
  rw [if_neg h2]
  obtain ⟨q, hq⟩ : ∃ q, q = m := ⟨_, rfl⟩
  have hdI : ((d : Int) == 2) = false := beq_false_of_ne (by omega)
  have hq64 : (q : Int) ≤ 64 := by omega
  have hq1 : (1 : Int) ≤ (q : Int) := by omega
  rw [← hq]
  clear hq h16 h64 hmo h2 hd
 all_goals
  go_enter Tryz.func15, Tryz.ntmps15
  go_wp2_with fail
  refine wp_abs (fun W => Ext w W ∧ Marks W w.heap.size 0 []) ⟨(Ext.refl _).alloc _, Marks.made w⟩ ?_
  rintro W ⟨hx, hmk⟩
  obtain ⟨bm, hbm⟩ : ∃ bm, bm = w.heap.size := ⟨_, rfl⟩
  rw [← hbm] at hmk ⊢
  have HBM := Lib.hid hbm
  clear hbm hmm
  go_loopw [9, 11] (fun pv kv wr => ∃ (i : Nat) (A : Option Addr) (c : Nat) (L : List HA), pv = .slice A L.length c ∧ kv = .int .i64 i ∧ i ≤ l.length ∧ i ≤ most ∧ L.length ≤ i ∧ Ext w wr ∧ wr.ownsRow (w.heap.size + 1) 39 7 (.slice A L.length c) L.length (L.flatMap encHA) ∧ Marks wr bm i (turned L) ∧ (∀ x ∈ L, ActOk d q x) ∧ (turned L).Nodup) (fun _ kv _ => most - (intOf kv).toNat)
  case atStart => exact ⟨0, none, 0, [], rfl, rfl, by omega, by omega, by simp, hx, World.ownsRow_nil _ _ _ _, hmk, fun x hx => by simp at hx, List.nodup_nil⟩
  case round =>
   clear hx hmk
   obtain ⟨i, A, c, L, rfl, rfl, hil, him, hLi, hx, hown, hmk, hok, hnd⟩ := hrel
   have HX := Lib.hid hx
   have HOWN := Lib.hid hown
   have HMK := Lib.hid hmk
   have HOK := Lib.hid (And.intro hok hnd)
   clear hx hown hmk hok hnd
   by_cases hlt : i < l.length
   ·by_cases h30 : i < most
    ·have hltI : (i : Int) < (l.length : Int) := by omega
     have h30I : (i : Int) < (most : Int) := by omega
     have HLL := Lib.hid (show L.length ≤ i ∧ i < most ∧ most ≤ 1000 ∧ i < l.length from ⟨hLi, h30, HMO.out, hlt⟩)
     obtain ⟨b, o, rfl, hcell⟩ := HP.out i hlt
     obtain ⟨r, hr⟩ : ∃ r, r = l[i] := ⟨_, rfl⟩
     have hI := (HMM.out _ (List.getElem_mem hlt)).2
     rw [← hr] at hI
     have q0 := HX.out.cell (hcell i hlt 0 _ rfl)
     have q1 := HX.out.cell (hcell i hlt 1 _ rfl)
     have q2 := HX.out.cell (hcell i hlt 2 _ rfl)
     have q3 := HX.out.cell (hcell i hlt 3 _ rfl)
     rw [← hr] at q0 q1 q2 q3
     simp only [Nat.add_zero] at q0
     have HI := Lib.hid hI
     clear hcell hr hI hlt h30 hil him hLi
     go_wp2_with fail
     refine calls_abs (fun W => Ext wr W ∧ Blk_ W wr.heap.size 82 #[.int .i64 r.kind, .int .i64 r.a, .int .i64 r.b, .int .i64 r.c]) ⟨(Ext.refl _).alloc _, Blk_.new _ _ _⟩ ?_
     rintro w2 ⟨hx2, hb2⟩
     refine (picked_any r.a (q : Int) w2 HI.out.2.1 (by omega) (by omega)).mono ?_
     rintro e wz ⟨rfl, hw⟩
     obtain rfl := hw.symm
     have hpr := pick_range r.a (q : Int) (by omega)
     obtain ⟨n, hn⟩ := Int.eq_ofNat_of_zero_le hpr.1
     rw [hn] at hpr ⊢
     have HNN := Lib.hid (show n < q ∧ 0 < q by omega)
     have hn64 : (n : Int) < 64 := by omega
     have HX2 := Lib.hid (HX.out.trans hx2)
     have HOWN0 := HOWN
     have HMK0 := HMK
     have HOWN2 := Lib.hid (own_ext HOWN.out hx2)
     have HMK2 := Lib.hid (HMK.out.grown (hx2.by_ none) (by simp))
     clear HX HOWN HMK
     have HX := HX2
     have HOWN := HOWN2
     have HMK := HMK2
     clear HX2 HOWN2 HMK2
     have HB12 := Lib.hid hb2
     obtain ⟨g12, hg12⟩ : ∃ g, g = wr.heap.size := ⟨_, rfl⟩
     rw [← hg12] at HB12 ⊢
     have HRW := Lib.hid (show ∀ q, (Value.slice A L.length c).ownBlock = some q → q ≠ g12 from fun q hq => by have := (HOWN0.out.lt q hq).2; omega)
     have f0 := HB12.out.cell 0
     simp at f0
     have hbg := HB12.out.lt
     have HG12 := Lib.hid (show bm < g12 by rw [hg12]; exact HMK0.out.lt)
     clear hpr hn hx2 hb2 q0 q1 q2 q3 hg12 HOWN0 HMK0
     go_wp2_with fail
     refine (picked_any r.kind 12 w2 HI.out.1 (by omega) (by omega)).mono ?_
     rintro e wz ⟨rfl, hw⟩
     obtain rfl := hw.symm
     have hkr := pick_range r.kind 12 (by decide)
     obtain ⟨kk, hkk⟩ : ∃ kk, kk = pick r.kind 12 := ⟨_, rfl⟩
     rw [← hkk] at hkr ⊢
     clear hkk f0 hbg
     by_cases hA : kk < 5
     ·clear hkr
      go_wp2_with (at_builtin; refine wpList_append_at _ rfl (.tmp 45) (.tmp 49) 23 rfl (w.heap.size + 1) 39 i1 (.agg #[.int .i64 0, .slice none 0 0, .string .empty, .int .i64 0, .int .i64 0, .int .i64 0, .int .i64 0]) 7 80 Tryz.underlying23 HIE.out.1 HIE.out.2.1 HIE.out.2.2.1 HIE.out.2.2.2 rfl (by decide) (.slice A L.length c) L.length _ rfl (own_ext HOWN.out ((Ext.refl _).alloc _)) ⟨w2.heap.size, 0, none⟩ 1 1 [.int .i64 4, .slice none 0 0, .string ⟨#[]⟩, .int .i64 (d : Int), .int .i64 (n : Int), .int .i64 0, .int .i64 0] rfl rfl ?c1 ?c2 ?c3 ?c4 ?c5 ?_)
      case c1 =>
       intro j u hu
       rw [Addr.add_lit, Nat.zero_add, (Blk_.new w2 39 _).cell]
       simpa using hu
      case c2 =>
       intro u hu
       simp only [List.mem_cons, List.not_mem_nil, or_false] at hu
       rcases hu with rfl | rfl | rfl | rfl | rfl | rfl | rfl <;> rfl
      case c3 => have := HLL.out; unfold maxLen; omega
      case c4 => have := HLL.out; omega
      case c5 => have := HX.out.size; have := HBM.out; rw [World.size_alloc]; omega
      intro A' c' w3 own3 hg3 _
      have HOWN3 := Lib.hid own3
      have HMK3 := Lib.hid ((HMK.out.grown (((Ext.refl w2).alloc _).by_ none) (by simp)).grown hg3 (by intro e; have := (HOWN.out.lt _ e.symm).1; have := HBM.out; omega))
      have HX3 := Lib.hid ((HX.out.alloc _).grown hg3 (fun q hq => by have := (HOWN.out.lt _ hq).1; omega))
      clear own3 hg3
      go_wp2_with fail
      go_roundw
      case rel =>
       have hll := HLL.out
       refine ⟨i + 1, A', c', L ++ [(⟨4, d, (n : Int), 0, 0⟩ : HA)], by rw [List.length_append]; rfl, by first | rfl | go_num, by omega, by omega, by rw [List.length_append]; show L.length + 1 ≤ i + 1; omega, HX3.out, ?_, ?_, ?_, ?_⟩
       ·rw [List.length_append, List.flatMap_append]
        exact HOWN3.out
       ·rw [turned_snoc, if_neg (by show ¬ (4 : Int) = 5; decide), List.append_nil]
        exact HMK3.out.mono (by omega)
       ·intro y hy
        rcases List.mem_append.1 hy with hy | hy
        ·exact HOK.out.1 y hy
        ·obtain rfl := List.mem_singleton.1 hy
         have := HNN.out
         exact ⟨rfl, by first | exact Or.inl rfl | exact Or.inr (Or.inr rfl), by dsimp only; omega, by dsimp only; omega, by dsimp only; omega, by dsimp only; omega, by dsimp only; omega, by dsimp only; omega⟩
       ·rw [turned_snoc, if_neg (by show ¬ (4 : Int) = 5; decide), List.append_nil]
        exact HOK.out.2
      case measure => have := HLL.out; (simp [intOf]; try omega)
     ·by_cases hB : kk < 11
      ·have hA' : (5 : Int) ≤ kk := by omega
       have hlk := HMK.out.look (n : Int) (by unfold I64; omega)
       cases hT : (turned L).contains (n : Int) with
       | true =>
        rw [hT] at hlk
        have hne : (kk == 11) = false := beq_false_of_ne (by omega)
        clear hA hkr
        go_wp2_with fail
        go_roundw
        case rel => have hll := HLL.out; exact ⟨i + 1, A, c, L, rfl, by first | rfl | go_num, by omega, by omega, by omega, HX.out, HOWN.out, HMK.out.mono (by omega), HOK.out.1, HOK.out.2⟩
        case measure => have := HLL.out; (simp [intOf]; try omega)
       | false =>
        rw [hT] at hlk
        have HTT := Lib.hid hT
        clear hA hkr hT
        obtain ⟨DD, hown, hD⟩ := HMK.out
        have HDD := Lib.hid hD
        clear hD
        go_wp2_with (first | (at_mapUpdate; refine Go.wpList_mapUpdate_own _ rfl _ _ _ 80 rfl 3 4 law_int Tryz.underlying80 _ bm i _ rfl hown (by have := HLL.out; unfold maxLen; omega) _ _ _ rfl rfl (keyOf_n n (by omega)) _ [] (plainElem_bool Tryz.underlying4 true) ?_; intro w3 hown3 hg3) | fail)
        have hmk3 : Marks w3 bm (i + 1) ((n : Int) :: turned L) := Marks.put ⟨hown, HDD.out⟩ hown3
        have HMKn := Lib.hid hmk3
        have HOWNn := Lib.hid (own_grown HOWN.out hg3 (fun g hg e => by injection e with e; have := (HOWN.out.lt g hg).1; have := HBM.out; omega))
        have HXn := Lib.hid (HX.out.grown hg3 (fun q hq => by obtain rfl := Option.some.inj hq; rw [HBM.out]; exact Nat.le_refl _))
        have HB12n := Lib.hid (HB12.out.grown hg3 (fun q hq => by obtain rfl := Option.some.inj hq; have := HG12.out; omega))
        clear hmk3 hown hown3 hg3 hlk HDD HMK HOWN HX HB12
        have HMK := HMKn
        have HOWN := HOWNn
        have HX := HXn
        have HB12 := HB12n
        clear HMKn HOWNn HXn HB12n
        go_wp2_with fail
        refine wp_abs (fun W => Ext w W ∧ W.ownsRow (w.heap.size + 1) 39 7 (.slice A L.length c) L.length (L.flatMap encHA) ∧ Marks W bm (i + 1) ((n : Int) :: turned L) ∧ Blk_ W g12 82 #[.int .i64 r.kind, .int .i64 r.a, .int .i64 r.b, .int .i64 r.c]) ⟨HX.out, HOWN.out, HMK.out, HB12.out⟩ ?_
        clear HX HOWN HMK HB12
        rintro W ⟨hx, hown, hmk, hb12⟩
        have HX := Lib.hid hx
        have HOWN := Lib.hid hown
        have HMK := Lib.hid hmk
        have HB12 := Lib.hid hb12
        obtain ⟨ro, hro⟩ : ∃ ro, ro = (Value.slice A L.length c).ownBlock := ⟨_, rfl⟩
        have HRO := Lib.hid hro
        obtain ⟨N0, hN0⟩ : ∃ N, N = W.heap.size := ⟨_, rfl⟩
        have HN0 := Lib.hid hN0
        have HRB := Lib.hid (show ∀ q, ro = some q → w.heap.size + 1 ≤ q from fun q hq => (hown.lt q (hro.symm.trans hq)).1)
        have HRL := Lib.hid (show ∀ q, ro = some q → q < N0 from fun q hq => by rw [hN0]; exact (hown.lt q (hro.symm.trans hq)).2)
        have HRG := Lib.hid (show ∀ q, ro = some q → q ≠ g12 from fun q hq => HRW.out q (hro.symm.trans hq))
        clear hx hown hmk hb12 hro hN0
        refine wp_region_valsA 11 ro (F := ?_) ?_ [(fun (v : Value) (_ : World) => v = .slice A L.length c), (fun (v : Value) (_ : World) => v = .int .i64 (d : Int)), (fun (v : Value) (_ : World) => v = .int .i64 (n : Int)), (fun (v : Value) (_ : World) => v = .pointer (some ⟨g12, 2, none⟩)), (fun (v : Value) (_ : World) => v = .int .i64 r.b), (fun (v : Value) (_ : World) => v = .int .i64 (pick r.b 30)), (fun (v : Value) (_ : World) => v = .pointer (some ⟨g12, 3, none⟩)), (fun (v : Value) (_ : World) => v = .int .i64 r.c), (fun (v : Value) (_ : World) => v = .int .i64 (pick r.c 256)), (fun (v : Value) (_ : World) => v = .agg #[.int .i64 5, .slice none 0 0, .string .empty, .int .i64 (d : Int), .int .i64 (n : Int), .int .i64 (pick r.b 30), .int .i64 (pick r.c 256)]), (fun v u => ∃ g, v = .slice (some ⟨g, 0, none⟩) 1 1 ∧ Blk_ u g 39 #[.int .i64 5, .slice none 0 0, .string .empty, .int .i64 (d : Int), .int .i64 (n : Int), .int .i64 (pick r.b 30), .int .i64 (pick r.c 256)] ∧ N0 ≤ g), (fun v u => ∃ A' c', v = .slice A' (L.length + 1) c' ∧ u.ownsRow (w.heap.size + 1) 39 7 (.slice A' (L.length + 1) c') (L.length + 1) (L.flatMap encHA ++ [.int .i64 5, .slice none 0 0, .string .empty, .int .i64 (d : Int), .int .i64 (n : Int), .int .i64 (pick r.b 30), .int .i64 (pick r.c 256)]))] (by kernel_rfl) rfl (by kernel_rfl) rfl (by kernel_rfl) ?_ ?_ ?_
        rotate_left
        ·intro vals
         simp only [putAll, List.dropLast, Act.put, List.setIfInBounds_toArray, List.set_cons_zero, List.set_cons_succ, Nat.zero_add, Nat.reduceAdd]
         rfl
        ·intro j p hp v u u' h hr
         match j, hp with
         | 0, hp => obtain rfl := Option.some.inj hp; exact h
         | 1, hp => obtain rfl := Option.some.inj hp; exact h
         | 2, hp => obtain rfl := Option.some.inj hp; exact h
         | 3, hp => obtain rfl := Option.some.inj hp; exact h
         | 4, hp => obtain rfl := Option.some.inj hp; exact h
         | 5, hp => obtain rfl := Option.some.inj hp; exact h
         | 6, hp => obtain rfl := Option.some.inj hp; exact h
         | 7, hp => obtain rfl := Option.some.inj hp; exact h
         | 8, hp => obtain rfl := Option.some.inj hp; exact h
         | 9, hp => obtain rfl := Option.some.inj hp; exact h
         | 10, hp => obtain rfl := Option.some.inj hp; rw [if_neg (by decide)] at hr; exact (by obtain ⟨g, hg, hb, hn⟩ := h; exact ⟨g, hg, hb.grown hr (fun q hq => by have := HRL.out q hq; omega), hn⟩)
         | 11, hp => obtain rfl := Option.some.inj hp; rw [if_pos rfl] at hr; exact (by obtain ⟨A', c', hv, ho⟩ := h; exact ⟨A', c', hv, own_ext ho hr⟩)
         | n + 12, hp => exact absurd hp (by simp)
        ·refine ⟨?_, ?_, ?_, ?_, ?_, ?_, ?_, ?_, ?_, ?_, ?_, ?_, trivial⟩
         ·intro vals W' e hd ho K hK
          have hx : World.grownBy _ W' ro := e
          exact st_q hK (by go_simp; rfl)
         ·intro vals W' e hd ho K hK
          have hx : World.grownBy _ W' ro := e
          exact st_q hK (by go_simp; rfl)
         ·intro vals W' e hd ho K hK
          have hx : World.grownBy _ W' ro := e
          exact st_q hK (by go_simp; rfl)
         ·intro vals W' e hd ho K hK
          have hx : World.grownBy _ W' ro := e
          exact st_q hK (by go_simp; rfl)
         ·intro vals W' e hd ho K hK
          have h3 : vals 3 = .pointer (some ⟨g12, 2, none⟩) := hd 3 (by kernel_rfl)
          have hx : World.grownBy _ W' ro := e
          have cc := (HB12.out.drew.grown hx HRG.out).cell 2
          simp at cc
          refine st_quiet (v := ?_) ?_ ?_
          rotate_left
          ·go_simp
           rfl
          exact hK _ _ _ rfl rfl (Ext.refl _)
         ·intro vals W' e hd ho K hK
          have h4 : vals 4 = .int .i64 r.b := hd 4 (by kernel_rfl)
          have hx : World.grownBy _ W' ro := e
          go_wp2_with fail
          refine (picked_any r.b 30 _ HI.out.2.2.1 (by omega) (by omega)).mono ?_
          rintro e' u' ⟨rfl, rfl⟩
          exact hK _ _ _ (by first | rfl | (simp only [h4]; rfl)) rfl (Ext.refl _)
         ·intro vals W' e hd ho K hK
          have hx : World.grownBy _ W' ro := e
          exact st_q hK (by go_simp; rfl)
         ·intro vals W' e hd ho K hK
          have h6 : vals 6 = .pointer (some ⟨g12, 3, none⟩) := hd 6 (by kernel_rfl)
          have hx : World.grownBy _ W' ro := e
          have cc := (HB12.out.drew.grown hx HRG.out).cell 3
          simp at cc
          refine st_quiet (v := ?_) ?_ ?_
          rotate_left
          ·go_simp
           rfl
          exact hK _ _ _ rfl rfl (Ext.refl _)
         ·intro vals W' e hd ho K hK
          have h7 : vals 7 = .int .i64 r.c := hd 7 (by kernel_rfl)
          have hx : World.grownBy _ W' ro := e
          go_wp2_with fail
          refine (picked_any r.c 256 _ HI.out.2.2.2 (by omega) (by omega)).mono ?_
          rintro e' u' ⟨rfl, rfl⟩
          exact hK _ _ _ (by first | rfl | (simp only [h7]; rfl)) rfl (Ext.refl _)
         ·intro vals W' e hd ho K hK
          have h1 : vals 1 = .int .i64 (d : Int) := hd 1 (by kernel_rfl)
          have h2 : vals 2 = .int .i64 (n : Int) := hd 2 (by kernel_rfl)
          have h5 : vals 5 = .int .i64 (pick r.b 30) := hd 5 (by kernel_rfl)
          have h8 : vals 8 = .int .i64 (pick r.c 256) := hd 8 (by kernel_rfl)
          have hx : World.grownBy _ W' ro := e
          exact st_q hK (by go_simp; rfl)
         ·intro vals W' e hd ho K hK
          have h9 : vals 9 = .agg #[.int .i64 5, .slice none 0 0, .string .empty, .int .i64 (d : Int), .int .i64 (n : Int), .int .i64 (pick r.b 30), .int .i64 (pick r.c 256)] := hd 9 (by kernel_rfl)
          have hx : World.grownBy _ W' ro := e
          go_wp2_with fail
          exact hK _ _ _ (by first | rfl | (simp only [h9]; rfl)) ⟨W'.heap.size, rfl, Blk_.new _ _ _, by have := hx.size; have := HN0.out; simp only [size_drew_] at *; omega⟩ ((Ext.refl W').alloc _)
         ·intro vals W' e hd ho K hK
          have h0 : vals 0 = .slice A L.length c := hd 0 (by kernel_rfl)
          obtain ⟨g10, h10, b10, n10⟩ := hd 10 (by kernel_rfl)
          have hx : Ext _ W' := e
          refine wp_append_at W' (.tmp 62) (.tmp 72) 23 rfl (w.heap.size + 1) 39 i1 (.agg #[.int .i64 0, .slice none 0 0, .string .empty, .int .i64 0, .int .i64 0, .int .i64 0, .int .i64 0]) 7 80 Tryz.underlying23 HIE.out.1 HIE.out.2.1 HIE.out.2.2.1 HIE.out.2.2.2 rfl (by decide) (.slice A L.length c) L.length _ h0 (own_ext HOWN.out ((Ext.refl _).drew.trans hx)) ⟨g10, 0, none⟩ 1 1 [.int .i64 5, .slice none 0 0, .string .empty, .int .i64 (d : Int), .int .i64 (n : Int), .int .i64 (pick r.b 30), .int .i64 (pick r.c 256)] h10 rfl ?_ ?_ ?_ ?_ ?_ ?_
          ·intro j u hu
           rw [Addr.add_lit, Nat.zero_add, b10.cell]
           simpa using hu
          ·intro u hu
           simp only [List.mem_cons, List.not_mem_nil, or_false] at hu
           rcases hu with rfl | rfl | rfl | rfl | rfl | rfl | rfl <;> rfl
          ·have := HLL.out; unfold maxLen; omega
          ·have := HLL.out; omega
          ·have := hx.below.size
           have h5 := HX.out.size
           have h6 := HB12.out.lt
           have h7 := HG12.out
           have := HBM.out
           simp only [size_drew_] at *
           omega
          intro A' c' u' own hg _
          exact hK _ _ _ rfl ⟨A', c', rfl, own⟩ (by rw [← HRO.out] at hg; exact hg)
        intro vals W' e hall K hK
        obtain ⟨A', c', h11, own3⟩ := hall 11 (by decide)
        rw [HRO.out] at e
        have HOWN3 := Lib.hid own3
        have HMK3 := Lib.hid ((HMK.out.grown ((Ext.refl W).drew.by_ none) (by simp)).grown e (by intro e'; have := HRB.out _ (HRO.out.trans e'.symm); have := HBM.out; omega))
        have HX3 := Lib.hid ((HX.out.drew).grown e (fun q hq => by have := HRB.out q (HRO.out.trans hq); omega))
        clear hall e own3
        go_wp2_with fail
        go_roundw
        case rel =>
         have hll := HLL.out
         have p1 := pick_range r.b 30 (by decide)
         have p2 := pick_range r.c 256 (by decide)
         refine ⟨i + 1, A', c', L ++ [(⟨5, d, (n : Int), pick r.b 30, pick r.c 256⟩ : HA)], by rw [List.length_append]; exact h11, by first | rfl | go_num, by omega, by omega, by rw [List.length_append]; show L.length + 1 ≤ i + 1; omega, HX3.out, ?_, ?_, ?_, ?_⟩
         ·rw [List.length_append, List.flatMap_append]
          exact HOWN3.out
         ·rw [turned_snoc, if_pos rfl]
          exact HMK3.out.congr (fun x => by simp [Bool.or_comm])
         ·intro y hy
          rcases List.mem_append.1 hy with hy | hy
          ·exact HOK.out.1 y hy
          ·obtain rfl := List.mem_singleton.1 hy
           have := HNN.out
           exact ⟨rfl, Or.inr (Or.inl rfl), by dsimp only; omega, by dsimp only; omega, by dsimp only; omega, by dsimp only; omega, by dsimp only; omega, by dsimp only; omega⟩
         ·rw [turned_snoc, if_pos rfl]
          refine List.nodup_append.2 ⟨HOK.out.2, by simp, fun x hx y hy e => ?_⟩
          obtain rfl := List.mem_singleton.1 hy
          subst e
          have := HTT.out
          rw [List.contains_iff_mem.2 hx] at this
          cases this
        case measure => have := HLL.out; (simp [intOf]; try omega)
      ·obtain rfl : kk = 11 := by omega
       clear hA hB hkr
       go_wp2_with (at_builtin; refine wpList_append_at _ rfl (.tmp 77) (.tmp 80) 23 rfl (w.heap.size + 1) 39 i1 (.agg #[.int .i64 0, .slice none 0 0, .string .empty, .int .i64 0, .int .i64 0, .int .i64 0, .int .i64 0]) 7 80 Tryz.underlying23 HIE.out.1 HIE.out.2.1 HIE.out.2.2.1 HIE.out.2.2.2 rfl (by decide) (.slice A L.length c) L.length _ rfl (own_ext HOWN.out ((Ext.refl _).alloc _)) ⟨w2.heap.size, 0, none⟩ 1 1 [.int .i64 6, .slice none 0 0, .string ⟨#[]⟩, .int .i64 (d : Int), .int .i64 0, .int .i64 0, .int .i64 0] rfl rfl ?c1 ?c2 ?c3 ?c4 ?c5 ?_)
       case c1 =>
        intro j u hu
        rw [Addr.add_lit, Nat.zero_add, (Blk_.new w2 39 _).cell]
        simpa using hu
       case c2 =>
        intro u hu
        simp only [List.mem_cons, List.not_mem_nil, or_false] at hu
        rcases hu with rfl | rfl | rfl | rfl | rfl | rfl | rfl <;> rfl
       case c3 => have := HLL.out; unfold maxLen; omega
       case c4 => have := HLL.out; omega
       case c5 => have := HX.out.size; have := HBM.out; rw [World.size_alloc]; omega
       intro A' c' w3 own3 hg3 _
       have HOWN3 := Lib.hid own3
       have HMK3 := Lib.hid ((HMK.out.grown (((Ext.refl w2).alloc _).by_ none) (by simp)).grown hg3 (by intro e; have := (HOWN.out.lt _ e.symm).1; have := HBM.out; omega))
       have HX3 := Lib.hid ((HX.out.alloc _).grown hg3 (fun q hq => by have := (HOWN.out.lt _ hq).1; omega))
       clear own3 hg3
       go_wp2_with fail
       go_roundw
       case rel =>
        have hll := HLL.out
        refine ⟨i + 1, A', c', L ++ [(⟨6, d, 0, 0, 0⟩ : HA)], by rw [List.length_append]; rfl, by first | rfl | go_num, by omega, by omega, by rw [List.length_append]; show L.length + 1 ≤ i + 1; omega, HX3.out, ?_, ?_, ?_, ?_⟩
        ·rw [List.length_append, List.flatMap_append]
         exact HOWN3.out
        ·rw [turned_snoc, if_neg (by show ¬ (6 : Int) = 5; decide), List.append_nil]
         exact HMK3.out.mono (by omega)
        ·intro y hy
         rcases List.mem_append.1 hy with hy | hy
         ·exact HOK.out.1 y hy
         ·obtain rfl := List.mem_singleton.1 hy
          have := HNN.out
          exact ⟨rfl, by first | exact Or.inl rfl | exact Or.inr (Or.inr rfl), by dsimp only; omega, by dsimp only; omega, by dsimp only; omega, by dsimp only; omega, by dsimp only; omega, by dsimp only; omega⟩
        ·rw [turned_snoc, if_neg (by show ¬ (6 : Int) = 5; decide), List.append_nil]
         exact HOK.out.2
       case measure => have := HLL.out; (simp [intOf]; try omega)
    ·have hltI : (i : Int) < (l.length : Int) := by omega
     have h9I : (most : Int) ≤ (i : Int) := by omega
     have HLN := Lib.hid (show L.length ≤ most by omega)
     clear hlt h30 hil him hLi
     go_wp2_with fail
     go_ret
     exact ⟨A, c, L, rfl, HX.out, HOWN.out, HOK.out.1, HOK.out.2, HLN.out⟩
   ·have hltI : (l.length : Int) ≤ (i : Int) := by omega
    have HLN := Lib.hid (show L.length ≤ most by omega)
    clear hlt hil him hLi
    go_wp2_with fail
    go_ret
    exact ⟨A, c, L, rfl, HX.out, HOWN.out, HOK.out.1, HOK.out.2, HLN.out⟩
end Go.Proofs.YtgjijcgkmofaaaaGreatDoor
namespace Go.Proofs.YtgjijcgkmofaaaaGreatDoor
set_option linter.unusedSimpArgs false
set_option linter.unusedVariables false
set_option maxRecDepth 100000
set_option maxHeartbeats 8000000
open Go.RowKit
theorem keepSectors_any (n : Int) (w : World) (hn : I64 n) :
  Calls Tryz.prog 21 #[.int .i64 n] w fun e w' => ∃ m : Nat, e = .returned (.int .i64 (m : Int)) ∧ w' = w ∧ 24 ≤ m ∧ m ≤ 62 ∧ m % 2 = 0 := by
 have HN := Lib.hid hn
 clear hn
 go_enter Tryz.func21, Tryz.ntmps21
 go_wp2_with fail
 refine (picked_any n 20 w HN.out (by omega) (by omega)).mono ?_
 rintro e w1 ⟨rfl, hw⟩
 obtain rfl := hw.symm
 have hpr := pick_range n 20 (by decide)
 obtain ⟨p, hp⟩ := Int.eq_ofNat_of_zero_le hpr.1
 rw [hp] at hpr ⊢
 obtain ⟨p2, hp2⟩ : ∃ p2 : Nat, p2 = 2 * p := ⟨_, rfl⟩
 obtain ⟨m, hm⟩ : ∃ m : Nat, m = 24 + p2 := ⟨_, rfl⟩
 have y1 : (2 : Int) * (p : Int) = (p2 : Int) := by omega
 have y2 : (24 : Int) + (p2 : Int) = (m : Int) := by omega
 have b1 : (p : Int) < 20 := hpr.2
 have b2 : (p2 : Int) < 40 := by omega
 have b3 : (m : Int) ≤ 62 := by omega
 have HM := Lib.hid (show 24 ≤ m ∧ m ≤ 62 ∧ m % 2 = 0 by omega)
 clear hpr hp hp2 hm
 go_wp2_with fail
 go_ret
 exact ⟨m, rfl, rfl, HM.out⟩
def mend (a : List Dev) (j n : Nat) (s : ByteArray) : List Dev × Int := if (readS (dv a j) n n).2 = 0 then (a, 0) else (a.set j (writeS (dv a j) n n s).1, 1)
def mendP (a : List Dev) (n : Nat) (s : ByteArray) : List Dev × Int := if (readS (dv a 2) n (512 + n : Int)).2 = 0 then (a, 0) else (a.set 2 (writeS (dv a 2) n (512 + n : Int) s).1, 1)
def healP (a : List Dev) (all : List ByteArray) (n : Nat) : List Dev × Int :=
 let x := mend a 0 n (pl all n)
 let y := mend x.1 1 n (pl all n)
 if (arrReadS y.1 (pt n : Nat)).2.2 = 0 then ((mendP y.1 (n / 2) (pp all (n / 2))).1, x.2 + y.2 + (mendP y.1 (n / 2) (pp all (n / 2))).2) else (y.1, x.2 + y.2)
theorem Part.put {a : List Dev} {m : Nat} {all : List ByteArray} (h : Part a m all) {j : Nat} (hj : j < 3) {d : Dev} (hd : devMay d = true) (hl : d.sec.length = (dv a j).sec.length)
  (h0 : j = 0 → ∀ n : Nat, n < m → (readS d n n).2 = 0 → (readS d n n).1 = pl all n) (h1 : j = 1 → ∀ n : Nat, n < m → (readS d n n).2 = 0 → (readS d n n).1 = pl all n)
  (h2 : j = 2 → ∀ n : Nat, n < m / 2 → (readS d n (512 + n : Int)).2 = 0 → (readS d n (512 + n : Int)).1 = pp all n) : Part (a.set j d) m all := by
 have h3 := h.good.len
 have e : ∀ i, dv (a.set j d) i = if i = j then d else dv a i := by
  intro i
  by_cases hi : i = j
  ·subst hi; rw [if_pos rfl, dv_set_self (by omega)]
  ·rw [if_neg hi, dv_set_ne _ (fun e => hi e.symm)]
 refine ⟨h.good.dev hj hd hl, h.len, h.size, fun n hn => ?_, fun n hn => ?_, fun n hn => ?_⟩
 ·rw [e]; split
  ·rename_i hh; exact h0 hh.symm n hn
  ·exact h.r0 n hn
 ·rw [e]; split
  ·rename_i hh; exact h1 hh.symm n hn
  ·exact h.r1 n hn
 ·rw [e]; split
  ·rename_i hh; exact h2 hh.symm n hn
  ·exact h.r2 n hn
theorem Part.mend {a : List Dev} {m : Nat} {all : List ByteArray} (h : Part a m all) (h64 : m ≤ 64) {j n : Nat} (hj : j < 2) (hn : n < m) :
  Part (Go.Proofs.YtgjijcgkmofaaaaGreatDoor.mend a j n (pl all n)).1 m all ∧ (readS (dv (Go.Proofs.YtgjijcgkmofaaaaGreatDoor.mend a j n (pl all n)).1 j) n n).2 = 0 ∧
   (∀ i p : Nat, (i ≠ j ∨ p ≠ n) → ∀ no, readS (dv (Go.Proofs.YtgjijcgkmofaaaaGreatDoor.mend a j n (pl all n)).1 i) p no = readS (dv a i) p no) := by
 have h3 := h.good.len
 have hz := h.size n hn
 have ht : touchCode (dv a j) n = 0 := by
  have := h.good.touch (n := n) (by omega) (by omega)
  match j, hj with
  | 0, _ => exact this.1
  | 1, _ => exact this.2
 have hw := read_write (no := (n : Int)) (s := pl all n) ht (by omega) (by omega) (by omega)
 have hwo := fun (p : Nat) (hp : p ≠ n) (no : Int) => read_write_other (no := (n : Int)) (s := pl all n) ht (by omega) (by omega) (by omega) p no (by omega) (by omega)
 have hwm := write_may (no := (n : Int)) (s := pl all n) ht (by omega) (by omega) (by omega)
 unfold Go.Proofs.YtgjijcgkmofaaaaGreatDoor.mend
 by_cases hc : (readS (dv a j) n n).2 = 0
 ·rw [if_pos hc]
  exact ⟨h, hc, fun _ _ _ _ => rfl⟩
 ·rw [if_neg hc]
  have e : ∀ i, dv (a.set j (writeS (dv a j) n n (pl all n)).1) i = if i = j then (writeS (dv a j) n n (pl all n)).1 else dv a i := by
   intro i
   by_cases hi : i = j
   ·subst hi; rw [if_pos rfl, dv_set_self (by omega)]
   ·rw [if_neg hi, dv_set_ne _ (fun e => hi e.symm)]
  have key : ∀ p : Nat, p < m → ((readS (dv a j) p p).2 = 0 → (readS (dv a j) p p).1 = pl all p) → (readS (writeS (dv a j) n n (pl all n)).1 p p).2 = 0 → (readS (writeS (dv a j) n n (pl all n)).1 p p).1 = pl all p := by
   intro p hp hold
   by_cases hpn : p = n
   ·subst hpn
    intro _
    rw [hw, if_pos rfl, padS_full hz]
   ·rw [hwo p hpn p]
    exact hold
  refine ⟨h.put (by omega) hwm.1 hwm.2 (fun hj0 p hp => key p hp (by subst hj0; exact h.r0 p hp)) (fun hj1 p hp => key p hp (by subst hj1; exact h.r1 p hp)) (fun hj2 => by omega), ?_, fun i p hip no => ?_⟩
  ·rw [e, if_pos rfl, hw, if_pos rfl]
  ·rw [e]
   by_cases hi : i = j
   ·rw [if_pos hi, hi]
    rcases hip with hh | hh
    ·exact absurd hi hh
    ·exact hwo p hh no
   ·rw [if_neg hi]
theorem Part.mendP {a : List Dev} {m : Nat} {all : List ByteArray} (h : Part a m all) (h64 : m ≤ 64) {n : Nat} (hn : n < m / 2) :
  Part (Go.Proofs.YtgjijcgkmofaaaaGreatDoor.mendP a n (pp all n)).1 m all ∧ (readS (dv (Go.Proofs.YtgjijcgkmofaaaaGreatDoor.mendP a n (pp all n)).1 2) n (512 + n : Int)).2 = 0 ∧
   (∀ i p : Nat, (i ≠ 2 ∨ p ≠ n) → ∀ no, readS (dv (Go.Proofs.YtgjijcgkmofaaaaGreatDoor.mendP a n (pp all n)).1 i) p no = readS (dv a i) p no) := by
 have h3 := h.good.len
 have hz := pp_size h.size hn
 have ht : touchCode (dv a 2) n = 0 := h.good.touch2 hn
 have hw := read_write (no := (512 + n : Int)) (s := pp all n) ht (by omega) (by omega) (by omega)
 have hwo := fun (p : Nat) (hp : p ≠ n) (no : Int) => read_write_other (no := (512 + n : Int)) (s := pp all n) ht (by omega) (by omega) (by omega) p no (by omega) (by omega)
 have hwm := write_may (no := (512 + n : Int)) (s := pp all n) ht (by omega) (by omega) (by omega)
 unfold Go.Proofs.YtgjijcgkmofaaaaGreatDoor.mendP
 by_cases hc : (readS (dv a 2) n (512 + n : Int)).2 = 0
 ·rw [if_pos hc]
  exact ⟨h, hc, fun _ _ _ _ => rfl⟩
 ·rw [if_neg hc]
  have e : ∀ i, dv (a.set 2 (writeS (dv a 2) n (512 + n : Int) (pp all n)).1) i = if i = 2 then (writeS (dv a 2) n (512 + n : Int) (pp all n)).1 else dv a i := by
   intro i
   by_cases hi : i = 2
   ·subst hi; rw [if_pos rfl, dv_set_self (by omega)]
   ·rw [if_neg hi, dv_set_ne _ (fun e => hi e.symm)]
  refine ⟨h.put (by omega) hwm.1 hwm.2 (fun hj0 => by omega) (fun hj1 => by omega) (fun _ p hp => ?_), ?_, fun i p hip no => ?_⟩
  ·by_cases hpn : p = n
   ·subst hpn
    intro _
    rw [hw, if_pos rfl, padS_full hz]
   ·rw [hwo p hpn _]
    exact h.r2 p hp
  ·rw [e, if_pos rfl, hw, if_pos rfl]
  ·rw [e]
   by_cases hi : i = 2
   ·rw [if_pos hi, hi]
    rcases hip with hh | hh
    ·exact absurd hi hh
    ·exact hwo p hh no
   ·rw [if_neg hi]
def Cp (a : List Dev) (i p : Nat) : Prop := (readS (dv a i) p (if i = 2 then (512 + p : Int) else (p : Int))).2 = 0
theorem Cp.two {a : List Dev} {p : Nat} : Cp a 2 p ↔ (readS (dv a 2) p (512 + p : Int)).2 = 0 := by unfold Cp; rw [if_pos rfl]
theorem Cp.mir {a : List Dev} {i p : Nat} (h : i < 2) : Cp a i p ↔ (readS (dv a i) p p).2 = 0 := by unfold Cp; rw [if_neg (by omega)]
theorem Part.mendC {a : List Dev} {m : Nat} {all : List ByteArray} (h : Part a m all) (h64 : m ≤ 64) {j n : Nat} (hj : j < 2) (hn : n < m) :
  Cp (Go.Proofs.YtgjijcgkmofaaaaGreatDoor.mend a j n (pl all n)).1 j n ∧ ∀ i p, (i ≠ j ∨ p ≠ n) → (Cp (Go.Proofs.YtgjijcgkmofaaaaGreatDoor.mend a j n (pl all n)).1 i p ↔ Cp a i p) := by
 obtain ⟨_, h2, h3⟩ := h.mend h64 hj hn
 refine ⟨(Cp.mir hj).2 h2, fun i p hip => ?_⟩
 unfold Cp
 rw [h3 i p hip]
theorem Part.mendPC {a : List Dev} {m : Nat} {all : List ByteArray} (h : Part a m all) (h64 : m ≤ 64) {n : Nat} (hn : n < m / 2) :
  Cp (Go.Proofs.YtgjijcgkmofaaaaGreatDoor.mendP a n (pp all n)).1 2 n ∧ ∀ i p, (i ≠ 2 ∨ p ≠ n) → (Cp (Go.Proofs.YtgjijcgkmofaaaaGreatDoor.mendP a n (pp all n)).1 i p ↔ Cp a i p) := by
 obtain ⟨_, h2, h3⟩ := h.mendP h64 hn
 refine ⟨Cp.two.2 h2, fun i p hip => ?_⟩
 unfold Cp
 rw [h3 i p hip]
theorem Part.code {a : List Dev} {m : Nat} {all : List ByteArray} (h : Part a m all) (h16 : 16 ≤ m) (h64 : m ≤ 64) (h2 : m % 2 = 0) {n : Nat} (hn : n < m) :
  (arrReadS a n).2.2 = 0 ↔ Cp a 0 n ∨ Cp a 1 n ∨ ((Cp a 0 (pt n) ∨ Cp a 1 (pt n)) ∧ Cp a 2 (n / 2)) := by
 rw [Cp.mir (by decide), Cp.mir (by decide), Cp.mir (by decide), Cp.mir (by decide), Cp.two]
 have hp := pt_lt hn h2
 have hmir : (mirrorS a (pt n : Int)).2 ≠ 0 ↔ ((readS (dv a 0) (pt n : Nat) (pt n : Nat)).2 = 0 ∨ (readS (dv a 1) (pt n : Nat) (pt n : Nat)).2 = 0) := by
  constructor
  ·intro hne
   rcases h.mirror hp with ⟨c, _⟩ | ⟨_, c, _⟩ | ⟨_, _, e⟩
   ·exact .inl c
   ·exact .inr c
   ·rw [e] at hne; exact absurd rfl hne
  ·exact h.mirror_ok hp
 rcases h.read h16 h64 h2 hn with ⟨c, e⟩ | ⟨c0, c, e⟩ | ⟨c0, c1, ⟨hc, e⟩ | ⟨hc, e⟩⟩
 ·rw [e]; exact ⟨fun _ => .inl c, fun _ => rfl⟩
 ·rw [e]; exact ⟨fun _ => .inr (.inl c), fun _ => rfl⟩
 ·rw [e]
  constructor
  ·intro hh; exact absurd hh (by show ¬ (11 : Int) = 0; decide)
  ·rintro (hh | hh | ⟨h1, h2'⟩)
   ·exact absurd hh c0
   ·exact absurd hh c1
   ·rcases hc with hc | hc
    ·exact absurd hc (hmir.2 h1)
    ·exact absurd h2' hc
 ·rw [e]
  exact ⟨fun _ => .inr (.inr ⟨hmir.1 hc.1, hc.2⟩), fun _ => rfl⟩
theorem heal_facts {a : List Dev} {m : Nat} {all : List ByteArray} (h : Part a m all) (h16 : 16 ≤ m) (h64 : m ≤ 64) (h2 : m % 2 = 0) {n : Nat} (hn : n < m) :
  Part (healP a all n).1 m all ∧ Cp (healP a all n).1 0 n ∧ Cp (healP a all n).1 1 n ∧ ((Cp a 0 (pt n) ∨ Cp a 1 (pt n) ∨ Cp a 2 (n / 2)) → Cp (healP a all n).1 2 (n / 2)) ∧
   (∀ i p, Cp a i p → Cp (healP a all n).1 i p) ∧ (∀ i p, p ≠ n → i < 2 → (Cp (healP a all n).1 i p ↔ Cp a i p)) ∧ (∀ p, p ≠ n / 2 → (Cp (healP a all n).1 2 p ↔ Cp a 2 p)) ∧ 0 ≤ (healP a all n).2 := by
 have hp1 := h.mend h64 (j := 0) (by decide) hn
 have hc1 := h.mendC h64 (j := 0) (by decide) hn
 obtain ⟨x, hx⟩ : ∃ x, x = mend a 0 n (pl all n) := ⟨_, rfl⟩
 rw [← hx] at hp1 hc1
 have hp2 := hp1.1.mend h64 (j := 1) (by decide) hn
 have hc2 := hp1.1.mendC h64 (j := 1) (by decide) hn
 obtain ⟨y, hy⟩ : ∃ y, y = mend x.1 1 n (pl all n) := ⟨_, rfl⟩
 rw [← hy] at hp2 hc2
 have hm := pt_lt hn h2
 have hpf := pt_facts n
 have hx0 : 0 ≤ x.2 := by rw [hx]; unfold mend; split <;> simp
 have hy0 : 0 ≤ y.2 := by rw [hy]; unfold mend; split <;> simp
 have hy_0 : Cp y.1 0 n := (hc2.2 0 n (.inl (by decide))).2 hc1.1
 have hyo : ∀ i p, (p ≠ n ∨ 2 ≤ i) → (Cp y.1 i p ↔ Cp a i p) := by
  intro i p hip
  have ha : (i ≠ 1 ∨ p ≠ n) := by omega
  have hb : (i ≠ 0 ∨ p ≠ n) := by omega
  exact (hc2.2 i p ha).trans (hc1.2 i p hb)
 have hym : ∀ i p, Cp a i p → Cp y.1 i p := by
  intro i p hcp
  by_cases hpn : p = n
  ·subst hpn
   match i with
   | 0 => exact hy_0
   | 1 => exact hc2.1
   | i + 2 => exact (hyo (i + 2) p (.inr (by omega))).2 hcp
  ·exact (hyo i p (.inl hpn)).2 hcp
 have hcode := hp2.1.code h16 h64 h2 hm
 have he : healP a all n = if (arrReadS y.1 (pt n : Nat)).2.2 = 0 then ((mendP y.1 (n / 2) (pp all (n / 2))).1, x.2 + y.2 + (mendP y.1 (n / 2) (pp all (n / 2))).2) else (y.1, x.2 + y.2) := by
  unfold healP
  simp only
  rw [← hx, ← hy]
 rw [he]
 by_cases hr : (arrReadS y.1 (pt n : Nat)).2.2 = 0
 ·rw [if_pos hr]
  have hp3 := hp2.1.mendP h64 (n := n / 2) (by omega)
  have hc3 := hp2.1.mendPC h64 (n := n / 2) (by omega)
  have hz0 : 0 ≤ (mendP y.1 (n / 2) (pp all (n / 2))).2 := by unfold mendP; split <;> simp
  refine ⟨hp3.1, (hc3.2 0 n (.inl (by decide))).2 hy_0, (hc3.2 1 n (.inl (by decide))).2 hc2.1, fun _ => hc3.1, fun i p hcp => ?_, fun i p hpn hi => ?_, fun p hpn => ?_, by simp only; omega⟩
  ·by_cases hip : i = 2 ∧ p = n / 2
   ·rw [hip.1, hip.2]; exact hc3.1
   ·exact (hc3.2 i p (by omega)).2 (hym i p hcp)
  ·exact (hc3.2 i p (.inl (by omega))).trans (hyo i p (.inl hpn))
  ·exact (hc3.2 2 p (.inr hpn)).trans (hyo 2 p (.inr (Nat.le_refl _)))
 ·rw [if_neg hr]
  refine ⟨hp2.1, hy_0, hc2.1, fun hor => ?_, hym, fun i p hpn hi => hyo i p (.inl hpn), fun p hpn => hyo 2 p (.inr (Nat.le_refl _)), by simp only; omega⟩
  exfalso
  apply hr
  rw [hcode]
  rcases hor with hh | hh | hh
  ·exact .inl (hym 0 _ hh)
  ·exact .inr (.inl (hym 1 _ hh))
  ·refine .inr (.inr ⟨?_, ?_⟩)
   ·rw [hpf.2.2]; exact .inl hy_0
   ·rw [hpf.2.1]; exact hym 2 _ hh
def Ones (a : List Dev) (m k : Nat) : Prop := ∀ i p : Nat, i < 3 → i ≠ k → p < (if i = 2 then m / 2 else m) → Cp a i p
theorem Ones.code {a : List Dev} {m k : Nat} {all : List ByteArray} (ho : Ones a m k) (h : Part a m all) (h16 : 16 ≤ m) (h64 : m ≤ 64) (h2 : m % 2 = 0) {n : Nat} (hn : n < m) : (arrReadS a n).2.2 = 0 := by
 rw [h.code h16 h64 h2 hn]
 by_cases hk : k = 0
 ·exact .inr (.inl (ho 1 n (by decide) (by omega) (by rw [if_neg (by decide)]; exact hn)))
 ·exact .inl (ho 0 n (by decide) (by omega) (by rw [if_neg (by decide)]; exact hn))
structure Sc where
 a : List Dev
 next : Nat
 rounds : Nat
 count : Int
 gone : List Nat
def scrub1 (m : Nat) (all : List ByteArray) (s : Sc) : Sc :=
 { a := if (arrReadS s.a s.next).2.2 = 0 then (healP s.a all s.next).1 else s.a
   next := if s.next + 1 = m then 0 else s.next + 1
   rounds := if s.next + 1 = m then s.rounds + 1 else s.rounds
   count := if (arrReadS s.a s.next).2.2 = 0 then s.count + (healP s.a all s.next).2 else s.count
   gone := if (arrReadS s.a s.next).2.2 = 0 then s.gone else if s.next ∈ s.gone then s.gone else s.gone ++ [s.next] }
def scrubN (m : Nat) (all : List ByteArray) : Nat → Sc → Sc
 | 0, s => s
 | k + 1, s => scrub1 m all (scrubN m all k s)
def Less (x y : Ent) : Prop := Op.bytesLess (lst x.name) (lst y.name) = true
def insE (x : Ent) : List Ent → List Ent
 | [] => [x]
 | y :: l => if Op.bytesLess (lst y.name) (lst x.name) then y :: insE x l else x :: y :: l
theorem mem_insE {x z : Ent} : ∀ {l : List Ent}, z ∈ insE x l ↔ z = x ∨ z ∈ l
 | [] => by simp [insE]
 | y :: l => by
  unfold insE
  split
  ·rw [List.mem_cons, mem_insE, List.mem_cons]
   exact ⟨fun h => by rcases h with h | h | h <;> simp [h], fun h => by rcases h with h | h | h <;> simp [h]⟩
  ·simp
theorem insE_length (x : Ent) : ∀ l : List Ent, (insE x l).length = l.length + 1
 | [] => rfl
 | y :: l => by
  unfold insE
  split
  ·simp [insE_length x l]
  ·rfl
theorem less_of_not {a b : List UInt8} (h : ¬ Op.bytesLess a b = true) (hne : a ≠ b) : Op.bytesLess b a = true := by
 have ht := bl_total a b
 have h' : Op.bytesLess a b = false := by simpa using h
 rw [h'] at ht
 have ht2 : Op.bytesLess b a = true ∨ b = a := by simpa using ht
 exact ht2.resolve_right fun e => hne e.symm
theorem rising_iff (l : List Ent) : Rising l ↔ l.Pairwise Less := by
 rw [List.pairwise_iff_getElem]
 exact Iff.rfl
theorem rise_ins {x : Ent} : ∀ {l : List Ent}, l.Pairwise Less → (∀ y ∈ l, lst y.name ≠ lst x.name) → (insE x l).Pairwise Less
 | [], _, _ => List.pairwise_singleton _ _
 | y :: l, h, hne => by
  obtain ⟨h1, h2⟩ := List.pairwise_cons.1 h
  unfold insE
  split
  ·rename_i hl
   refine List.pairwise_cons.2 ⟨fun z hz => ?_, rise_ins h2 fun z hz => hne z (List.mem_cons_of_mem _ hz)⟩
   rcases mem_insE.1 hz with rfl | hz
   ·exact hl
   ·exact h1 z hz
  ·rename_i hl
   have hxy : Less x y := less_of_not hl (hne y List.mem_cons_self)
   refine List.pairwise_cons.2 ⟨fun z hz => ?_, h⟩
   rcases List.mem_cons.1 hz with rfl | hz
   ·exact hxy
   ·exact bl_trans _ _ _ hxy (h1 z hz)
theorem insE_split {x : Ent} : ∀ (l1 l2 : List Ent), (∀ y ∈ l1, Less y x) → insE x (l1 ++ l2) = l1 ++ insE x l2
 | [], _, _ => rfl
 | y :: l1, l2, h => by
  rw [List.cons_append, insE, if_pos (show Op.bytesLess (lst y.name) (lst x.name) = true from h y List.mem_cons_self), insE_split l1 l2 (fun z hz => h z (List.mem_cons_of_mem _ hz)), List.cons_append]
def addE (nb : Nat) : List Ent → Nat → List Fil → Option (List Ent)
 | es, _, [] => some es
 | es, at_, f :: l => if es.any (fun y => decide (lst y.name = lst f.name)) then none else addE nb (insE ⟨f.name, nb, at_, f.data.size⟩ es) (at_ + f.data.size) l
def fileBytes (l : List Fil) : Nat := (l.map fun f => f.data.size).sum
theorem entBad_mk {nb : Nat} {x : Ent} (h : nameMay x.name = true) (h1 : 0 ≤ x.block) (h2 : x.block < nb) (h3 : 0 ≤ x.at_) (h4 : x.at_ ≤ 600) (h5 : 0 ≤ x.bytes) (h6 : x.bytes ≤ 200) : entBad nb x = false := by
 unfold entBad inB
 simp only [h, Bool.not_true, Bool.false_or, Bool.or_eq_false_iff, Bool.not_eq_false', Bool.and_eq_true, decide_eq_true_eq]
 omega
theorem entBad_more {nb : Nat} {x : Ent} (h : entBad nb x = false) : entBad (nb + 1) x = false := by
 obtain ⟨h0, h1, h2, h3, h4, h5, h6⟩ := entBad_false h
 exact entBad_mk h0 h1 (by omega) h3 h4 h5 h6
theorem addE_ok {nb : Nat} : ∀ (l : List Fil) (es : List Ent) (p : Nat) (es' : List Ent), es.Pairwise Less → (∀ x ∈ es, entBad (nb + 1) x = false) → (∀ f ∈ l, nameMay f.name = true ∧ f.data.size ≤ 200) → p + fileBytes l ≤ 600 → addE nb es p l = some es' →
  es'.Pairwise Less ∧ (∀ x ∈ es', entBad (nb + 1) x = false) ∧ es'.length = es.length + l.length
 | [], es, p, es', h1, h2, _, _, h => by
  obtain rfl : es = es' := by simpa [addE] using h
  exact ⟨h1, h2, rfl⟩
 | f :: l, es, p, es', h1, h2, h3, h4, h => by
  unfold addE at h
  split at h
  ·cases h
  ·rename_i hn
   have hf := h3 f List.mem_cons_self
   have hs : fileBytes (f :: l) = f.data.size + fileBytes l := by simp [fileBytes]
   have hne : ∀ y ∈ es, lst y.name ≠ lst f.name := by
    intro y hy he
    exact hn (List.any_eq_true.2 ⟨y, hy, decide_eq_true he⟩)
   obtain ⟨r1, r2, r3⟩ := addE_ok l _ _ es' (rise_ins (x := ⟨f.name, nb, p, f.data.size⟩) h1 hne) (fun z hz => by
    rcases mem_insE.1 hz with rfl | hz
    ·exact entBad_mk hf.1 (by simp only; omega) (by simp only; omega) (by simp only; omega) (by simp only; omega) (by simp only; omega) (by simp only; omega)
    ·exact h2 z hz) (fun g hg => h3 g (List.mem_cons_of_mem _ hg)) (by omega) h
   refine ⟨r1, r2, ?_⟩
   rw [r3, insE_length, List.length_cons]
   omega
theorem ents_fine {nb : Nat} : ∀ (l : List Ent) (p : Option ByteArray), l.Pairwise Less → (∀ x ∈ l, entBad nb x = false) → (∀ q, p = some q → ∀ x ∈ l, Op.bytesLess (lst q) (lst x.name) = true) → entsF nb p l = 0
 | [], _, _, _, _ => rfl
 | y :: l, p, h1, h2, h3 => by
  obtain ⟨g1, g2⟩ := List.pairwise_cons.1 h1
  have ho : orderBad p y.name = false := by
   unfold orderBad
   cases p with
   | none => rfl
   | some q =>
    have := h3 q rfl y List.mem_cons_self
    simp only
    rw [toList_lst, toList_lst, this]
    rfl
  rw [ents_go (h2 y List.mem_cons_self) ho]
  exact ents_fine l _ g2 (fun x hx => h2 x (List.mem_cons_of_mem _ hx)) (fun q hq x hx => by obtain rfl := Option.some.inj hq; exact g1 x hx)
theorem blocks_snoc : ∀ (l : List Blk) (p : Int) (b : Blk), blocksF p l = 0 → blockBad (nextAt p l) b = false → blocksF p (l ++ [b]) = 0
 | [], p, b, _, h => by
  rw [List.nil_append, blocks_go (p := p) (b := b) (l := []) h]; rfl
 | a :: l, p, b, h, h2 => by
  unfold blocksF at h
  split at h
  ·exact absurd h (by decide)
  ·rename_i hb
   rw [List.cons_append, blocks_go (by simpa using hb)]
   exact blocks_snoc l _ b h h2
theorem fault_added {c : Cat} {b : Blk} {es : List Ent} (h : catFault c = 0) (hl : c.blocks.length < 10) (he : es.length ≤ 10) (hf : b.first = nextAt 8 c.blocks) (h0 : 0 ≤ b.bytes) (h1 : b.bytes ≤ 1200) (h2 : nextAt 8 c.blocks + secs b.bytes ≤ 64)
  (hr : es.Pairwise Less) (hb : ∀ x ∈ es, entBad (c.blocks.length + 1) x = false) : catFault ⟨c.blocks ++ [b], es⟩ = 0 := by
 obtain ⟨f1, f2, f3, f4⟩ := catFault_ok h
 have hbb : blockBad (nextAt 8 c.blocks) b = false := by
  unfold blockBad inB
  simp only [hf, Bool.or_eq_false_iff, Bool.not_eq_false', Bool.and_eq_true, decide_eq_true_eq, decide_eq_false_iff_not]
  omega
 have hlen : (c.blocks ++ [b]).length = c.blocks.length + 1 := by simp
 rw [fault_ents (by simp only; rw [hlen]; omega) (blocks_snoc _ _ _ f3 hbb)]
 simp only
 rw [hlen]
 exact ents_fine es none hr hb (fun q hq => by cases hq)
def dataS (l : List Fil) : ByteArray := bs (l.flatMap fun f => lst f.data)
theorem dataS_size (l : List Fil) : (dataS l).size = fileBytes l := by
 unfold dataS fileBytes
 rw [size_bs]
 induction l with
 | nil => rfl
 | cons f l ih => rw [List.flatMap_cons, List.length_append, length_lst, ih, List.map_cons, List.sum_cons]
def addCat (c : Cat) (es : List Ent) (s : ByteArray) : Cat := ⟨c.blocks ++ [⟨nextAt 8 c.blocks, s.size⟩], es⟩
def catText (c : Cat) : ByteArray := (encCatS c).1 ++ bs (List.replicate (192 - (encCatS c).1.size) 0)
def addS (a : List Dev) (l : List Fil) : List Dev × Int :=
 if (openS a).2 ≠ 0 then ([], (openS a).2) else if filesS l ≠ 0 then ([], filesS l) else
  match addE (openS a).1.blocks.length (openS a).1.entries 0 l with
  | none => ([], 7)
  | some es =>
   if 10 < es.length ∨ (openS a).1.blocks.length = 10 ∨ ((dv a 0).sec.length : Int) < nextAt 8 (openS a).1.blocks + secs (packS (dataS l)).1.size then ([], 8)
   else
    let x := (streamWriteS a (nextAt 8 (openS a).1.blocks) (packS (dataS l)).1).1
    streamWriteS x 0 (catText (addCat (openS a).1 es (packS (dataS l)).1))
theorem fileBytes_cons (f : Fil) (l : List Fil) : fileBytes (f :: l) = f.data.size + fileBytes l := by unfold fileBytes; rw [List.map_cons, List.sum_cons]
theorem filesGo_ok {l : List Fil} : ∀ (m k : Nat) (all : Int), k + m = l.length → filesGo l m k all = 0 → (∀ f ∈ l.drop k, nameMay f.name = true ∧ f.data.size ≤ 200) ∧ all + fileBytes (l.drop k) ≤ 600
 | 0, k, all, hk, h => by
  have e : l.drop k = [] := List.drop_eq_nil_of_le (by omega)
  rw [e]
  unfold filesGo at h
  split at h
  ·exact absurd h (by decide)
  ·exact ⟨(fun f hf => absurd hf (by simp)), (by show all + ((0 : Nat) : Int) ≤ 600; omega)⟩
 | m + 1, k, all, hk, h => by
  have hl : k < l.length := by omega
  have hx : l.getD k noFil = l[k] := by simp [List.getD, hl]
  unfold filesGo at h
  rw [hx] at h
  split at h
  ·exact absurd h (by decide)
  ·rename_i h1
   split at h
   ·exact absurd h (by decide)
   ·rename_i h2
    split at h
    ·exact absurd h (by decide)
    ·obtain ⟨r1, r2⟩ := filesGo_ok m (k + 1) _ (by omega) h
     have hd : l.drop k = l[k] :: l.drop (k + 1) := List.drop_eq_getElem_cons hl
     rw [hd]
     refine ⟨fun f hf => ?_, ?_⟩
     ·rcases List.mem_cons.1 hf with rfl | hf
      ·exact ⟨by simpa using h1, by omega⟩
      ·exact r1 f hf
     ·have : fileBytes (l[k] :: l.drop (k + 1)) = l[k].data.size + fileBytes (l.drop (k + 1)) := fileBytes_cons _ _
      rw [this]
      omega
theorem filesS_ok {l : List Fil} (h : filesS l = 0) : 1 ≤ l.length ∧ l.length ≤ 10 ∧ (∀ f ∈ l, nameMay f.name = true ∧ f.data.size ≤ 200) ∧ fileBytes l ≤ 600 := by
 unfold filesS at h
 split at h
 ·rename_i hl
  obtain ⟨r1, r2⟩ := filesGo_ok l.length 0 0 (by omega) h
  rw [List.drop_zero] at r1 r2
  exact ⟨hl.1, hl.2, r1, by omega⟩
 ·exact absurd h (by decide)
theorem data_ok {l : List Fil} (h : filesS l = 0) : (dataS l).size ≤ 600 ∧ (packS (dataS l)).2 = 0 ∧ (packS (dataS l)).1.size ≤ 605 := by
 have hs : (dataS l).size ≤ 600 := by rw [dataS_size]; exact (filesS_ok h).2.2.2
 have := packS_len _ hs
 exact ⟨hs, packS_code _ hs, by omega⟩
theorem addCat_ok {c : Cat} {l : List Fil} {es : List Ent} {n : Nat} (hc : catFault c = 0) (h : filesS l = 0) (he : addE c.blocks.length c.entries 0 l = some es) (h1 : ¬ 10 < es.length) (h2 : c.blocks.length ≠ 10)
  (h3 : ¬ ((n : Nat) : Int) < nextAt 8 c.blocks + secs (packS (dataS l)).1.size) (hn : n ≤ 64) : catFault (addCat c es (packS (dataS l)).1) = 0 := by
 obtain ⟨f1, f2, f3, f4⟩ := catFault_ok hc
 obtain ⟨g1, g2, g3, g4⟩ := filesS_ok h
 have hd := data_ok h
 obtain ⟨a1, a2, a3⟩ := addE_ok l c.entries 0 es ((rising_iff _).1 (ents_rising _ _ _ f4).1) (fun x hx => entBad_more (entsF_ok _ _ _ f4 x hx)) g3 (by omega) he
 exact fault_added hc (by omega) (by omega) rfl (by simp only; omega) (by simp only; omega) (by simp only; omega) a1 a2
def joinPl (all : List ByteArray) : Nat → Nat → ByteArray → ByteArray
 | 0, _, s => s
 | n + 1, k, s => joinPl all n (k + 1) (s ++ pl all k)
theorem Part.told {a : List Dev} {m : Nat} {all : List ByteArray} (h : Part a m all) (h16 : 16 ≤ m) (h64 : m ≤ 64) (h2 : m % 2 = 0) {n : Nat} (hn : n < m) :
  ((arrReadS a n).2.2 = 0 ∧ (arrReadS a n).1 = pl all n) ∨ arrReadS a n = (.empty, 0, 11) := by
 rcases h.read h16 h64 h2 hn with ⟨_, e⟩ | ⟨_, _, e⟩ | ⟨_, _, ⟨_, e⟩ | ⟨_, e⟩⟩
 ·exact .inl (by rw [e]; exact ⟨rfl, rfl⟩)
 ·exact .inl (by rw [e]; exact ⟨rfl, rfl⟩)
 ·exact .inr e
 ·exact .inl (by rw [e]; exact ⟨rfl, rfl⟩)
theorem part_loop {a : List Dev} {m : Nat} {all : List ByteArray} (h : Part a m all) (h16 : 16 ≤ m) (h64 : m ≤ 64) (h2 : m % 2 = 0) : ∀ (n k : Nat) (s : ByteArray), k + n ≤ m → (∀ i : Nat, k ≤ i → i < k + n → (arrReadS a i).2.2 = 0) → streamReadLoop a n k s = (joinPl all n k s, 0)
 | 0, k, s, _, _ => rfl
 | n + 1, k, s, hk, hr => by
  have h0 := hr k (Nat.le_refl _) (by omega)
  have ht : (arrReadS a k).1 = pl all k := by
   rcases h.told h16 h64 h2 (n := k) (by omega) with ⟨_, e⟩ | e
   ·exact e
   ·rw [e] at h0; exact absurd h0 (by show ¬ (11 : Int) = 0; decide)
  unfold streamReadLoop
  rw [if_neg (by simpa using h0), ht, show ((k : Nat) : Int) + 1 = ((k + 1 : Nat) : Int) by omega]
  exact part_loop h h16 h64 h2 n (k + 1) _ (by omega) (fun i hi hj => hr i (by omega) (by omega))
theorem part_lost {a : List Dev} {m : Nat} {all : List ByteArray} (h : Part a m all) (h16 : 16 ≤ m) (h64 : m ≤ 64) (h2 : m % 2 = 0) : ∀ (n k : Nat) (s : ByteArray), k + n ≤ m → (∃ i : Nat, k ≤ i ∧ i < k + n ∧ (arrReadS a i).2.2 ≠ 0) → streamReadLoop a n k s = (.empty, 11)
 | 0, k, s, _, ⟨i, h1, h2', _⟩ => by omega
 | n + 1, k, s, hk, ⟨i, h1, h3, h4⟩ => by
  unfold streamReadLoop
  rcases h.told h16 h64 h2 (n := k) (by omega) with ⟨hc, e⟩ | e
  ·rw [if_neg (by simpa using hc), e, show ((k : Nat) : Int) + 1 = ((k + 1 : Nat) : Int) by omega]
   refine part_lost h h16 h64 h2 n (k + 1) _ (by omega) ⟨i, ?_, by omega, h4⟩
   by_cases hik : i = k
   ·rw [hik] at h4; exact absurd hc h4
   ·omega
  ·rw [e]; rfl
theorem part_stream {a : List Dev} {m : Nat} {all : List ByteArray} (h : Part a m all) (h16 : 16 ≤ m) (h64 : m ≤ 64) (h2 : m % 2 = 0) {k n : Nat} (hn : n ≤ 1536) (hm : k + (n + 23) / 24 ≤ m) :
  ((∀ i : Nat, k ≤ i → i < k + (n + 23) / 24 → (arrReadS a i).2.2 = 0) → streamReadS a k n = ((joinPl all ((n + 23) / 24) k .empty).extract 0 n, 0)) ∧
  ((∃ i : Nat, k ≤ i ∧ i < k + (n + 23) / 24 ∧ (arrReadS a i).2.2 ≠ 0) → streamReadS a k n = (.empty, 11)) := by
 have hlen : (dv a 0).sec.length = m := h.good.l0
 have hf : streamFaultS a k n = 0 := fault_none (h.good.may h16 h2) ⟨by omega, by omega⟩ (by rw [hlen]; omega)
 have en : (((n : Int) + 23) / 24).toNat = (n + 23) / 24 := by omega
 constructor
 ·intro hr
  unfold streamReadS
  rw [hf, if_neg (by decide), en, part_loop h h16 h64 h2 _ k _ hm hr]
  rfl
 ·intro hr
  unfold streamReadS
  rw [hf, if_neg (by decide), en, part_lost h h16 h64 h2 _ k _ hm hr]
  rfl
end Go.Proofs.YtgjijcgkmofaaaaGreatDoor
