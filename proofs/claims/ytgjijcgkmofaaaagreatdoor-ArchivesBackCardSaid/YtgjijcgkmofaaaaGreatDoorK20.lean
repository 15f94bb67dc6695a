/-
  arraskeep.Hurts: acts that hurt one device: of each sector at most one byte is turned. Conditions: the first argument reads as a list of raw numbers, the others are a device, a number of sectors, and at most 1000 acts.
-/
import Derived.Test.YtgjijcgkmofaaaaGreatDoorK19
import Derived.Maps.Own
import Derived.Maps.Views
namespace Go.Proofs.YtgjijcgkmofaaaaGreatDoor
set_option linter.unusedSimpArgs false
set_option linter.unusedVariables false
open Go.RowKit Go.Maps

theorem info_act : (Tryz.prog.info? 39).map (fun i => (i.zero, i.size, i.bytes)) = some (some (.agg #[.int .i64 0, .slice none 0 0, .string .empty, .int .i64 0, .int .i64 0, .int .i64 0, .int .i64 0]), 7, 80) := by kernel_rfl
theorem size_drew_ (w : World) : w.drew.heap.size = w.heap.size := rfl
theorem law_int : Keyed Tryz.prog 3 := int_keyed Tryz.underlying3
theorem keyOf_n (n : Nat) (h : (n : Int) < 64) : keyOf Tryz.prog 3 (.int .i64 (n : Int)) = some (.int .i64 (n : Int)) := keyOf_int_mk Tryz.underlying3 (WalkArith.wf_i64 (by omega))
/-- A map of the call's own that tells which numbers are marked. -/
def Marks (w : World) (bm n : Nat) (T : List Int) : Prop := ∃ D : DataW Unit, w.ownsMap Tryz.prog 3 (plainElem Tryz.prog 4) bm n D ∧ ∀ x : Int, I64 x → D.atKey (.int .i64 x) (.lit (.bool false)) = .lit (.bool (T.contains x))
theorem Marks.made (w : World) : Marks (w.alloc (.map #[] 0)) w.heap.size 0 [] := ⟨_, World.ownsMap_made _ _ _ _, fun _ _ => rfl⟩
theorem Marks.grown {w w' : World} {bm n : Nat} {T : List Int} {row : Option Nat} (h : Marks w bm n T) (hg : w.grownBy w' row) (hne : some bm ≠ row) : Marks w' bm n T := by
  obtain ⟨D, ho, hd⟩ := h
  exact ⟨D, ho.kept hg hne, hd⟩
theorem Marks.lt {w : World} {bm n : Nat} {T : List Int} (h : Marks w bm n T) : bm < w.heap.size := by
  obtain ⟨D, ho, _⟩ := h
  exact ho.lt
theorem Marks.mono {w : World} {bm n n' : Nat} {T : List Int} (h : Marks w bm n T) (hn : n ≤ n') : Marks w bm n' T := by
  obtain ⟨D, ho, hd⟩ := h
  exact ⟨D, ho.mono hn, hd⟩
theorem Marks.congr {w : World} {bm n : Nat} {T T' : List Int} (h : Marks w bm n T) (he : ∀ x, T.contains x = T'.contains x) : Marks w bm n T' := by
  obtain ⟨D, ho, hd⟩ := h
  exact ⟨D, ho, fun x hx => by rw [hd x hx, he]⟩
theorem plainElem_bool_inv {P : Program} {e : TypeId} (he : P.underlying e = some .bool) {v : Value} {z : DataW Unit × List MemPlace} (h : plainElem P e v = some z) : ∃ x, v = .bool x ∧ z = (.lit (.bool x), []) := by
  unfold plainElem at h
  rw [he] at h
  cases v <;> simp at h
  subst h
  exact ⟨_, rfl, rfl⟩
theorem zero_bool (w : World) : (zeroValue 4).run Tryz.prog w = .ok (.bool false) w := by kernel_rfl
set_option maxRecDepth 100000 in
theorem Marks.look {w : World} {bm n : Nat} {T : List Int} (h : Marks w bm n T) (x : Int) (hx : I64 x) : (Instr.lookup 80 (.map (some bm)) (.int .i64 x) false).run Tryz.prog w = .ok (.bool (T.contains x)) w := by
  obtain ⟨D, ho, hd⟩ := h
  obtain ⟨v, ps, hrun, hv⟩ := ho.lookup law_int Tryz.underlying80 (zero_bool w) (plainElem_bool Tryz.underlying4 false) (keyOf_int_mk Tryz.underlying3 (WalkArith.wf_i64 (by unfold I64 at hx; omega)))
  obtain ⟨y, rfl, hz⟩ := plainElem_bool_inv Tryz.underlying4 hv
  rw [hd x hx] at hz
  simp only [Prod.mk.injEq] at hz
  have : T.contains x = y := by
    have h1 := hz.1
    injection h1 with h1
    injection h1
  rw [this]
  exact hrun
set_option maxRecDepth 100000 in
theorem Marks.put {w w' : World} {bm n : Nat} {T : List Int} {D : DataW Unit} {x : Int} (h : w.ownsMap Tryz.prog 3 (plainElem Tryz.prog 4) bm n D ∧ ∀ x : Int, I64 x → D.atKey (.int .i64 x) (.lit (.bool false)) = .lit (.bool (T.contains x)))
    (h' : w'.ownsMap Tryz.prog 3 (plainElem Tryz.prog 4) bm (n + 1) (D.put (.int .i64 x) (.lit (.bool true)))) : Marks w' bm (n + 1) (x :: T) := by
  refine ⟨_, h', fun y hy => ?_⟩
  by_cases he : y = x
  · subst he
    have hD : IsMap D := by
      obtain ⟨es, clock, _, _, _, hDD⟩ := h.1
      exact ⟨_, hDD⟩
    rw [atKey_put_same hD (law_int.key (keyOf_int_mk Tryz.underlying3 (WalkArith.wf_i64 (by unfold I64 at hy; omega))))]
    simp
  · rw [atKey_put_other (by intro e; injection e with _ e; exact he e), h.2 y hy]
    simp [he]
set_option maxRecDepth 100000 in
set_option maxHeartbeats 16000000 in
theorem hurts_any (v : Value) (l : List Raw4) (d m most : Nat) (w : World) (h : SlR 4 32 RRaw w v l) (hd : d < 3) (h16 : 16 ≤ m) (h64 : m ≤ 64) (hmo : most ≤ 1000) :
    Calls Tryz.prog 15 #[v, .int .i64 (d : Int), .int .i64 (m : Int), .int .i64 (most : Int)] w fun e w' => ∃ A c L, e = .returned (.slice A L.length c) ∧ Ext w w' ∧ w'.ownsRow (w.heap.size + 1) 39 7 (.slice A L.length c) L.length (L.flatMap encHA) ∧ (∀ x ∈ L, ActOk d (if d = 2 then m / 2 else m) x) ∧ (turned L).Nodup ∧ L.length ≤ 1000 := by
  have hmem := h.mem encRw_ok w
  obtain ⟨A0, c0, rfl, hlb, hlc, p0⟩ := h.rowE encRw_ok
  have HMM := Lib.hid hmem
  have HP := Lib.hid p0
  have HMO := Lib.hid hmo
  obtain ⟨i1, hi0, hz0, hz1, hz2⟩ := info_parts info_act
  have HIE := Lib.hid (And.intro hi0 (And.intro hz0 (And.intro hz1 hz2)))
  have hll : (l.length : Int) ≤ 140737488355328 := by omega
  have hmoI : (most : Int) ≤ 1000 := by omega
  clear h hmem p0 hlb hlc hi0 hz0 hz1 hz2
  have hmm := @run_makeMap Tryz.prog
  by_cases h2 : d = 2
  · subst h2
    rw [if_pos rfl]
    obtain ⟨q, hq⟩ : ∃ q, q = m / 2 := ⟨_, rfl⟩
    have hqm : (m : Int) / 2 = (q : Int) := by omega
    have hq64 : (q : Int) ≤ 64 := by omega
    have hq1 : (1 : Int) ≤ (q : Int) := by omega
    rw [← hq]
    clear hq h16 h64 hmo hd
    obtain ⟨d, hd2⟩ : ∃ d : Nat, d = 2 := ⟨_, rfl⟩
    rw [← hd2]
    have hdI : ((d : Int) == 2) = true := by rw [hd2]; rfl
    clear hd2
    go_enter Tryz.func15, Tryz.ntmps15
    go_wp2_with fail
    refine wp_abs (fun W => Ext w W ∧ Marks W w.heap.size 0 []) ⟨(Ext.refl _).alloc _, Marks.made w⟩ ?_
    rintro W ⟨hx, hmk⟩
    obtain ⟨bm, hbm⟩ : ∃ bm, bm = w.heap.size := ⟨_, rfl⟩
    rw [← hbm] at hmk ⊢
    have HBM := Lib.hid hbm
    clear hbm hmm
    go_loopw [9, 11] (fun pv kv wr => ∃ (i : Nat) (A : Option Addr) (c : Nat) (L : List HA), pv = .slice A L.length c ∧ kv = .int .i64 i ∧ i ≤ l.length ∧ i ≤ most ∧ L.length ≤ i ∧ Ext w wr ∧ wr.ownsRow (w.heap.size + 1) 39 7 (.slice A L.length c) L.length (L.flatMap encHA) ∧ Marks wr bm i (turned L) ∧ (∀ x ∈ L, ActOk d q x) ∧ (turned L).Nodup) (fun _ kv _ => most - (intOf kv).toNat)
    case atStart => exact ⟨0, none, 0, [], rfl, rfl, by omega, by omega, by simp, hx, World.ownsRow_nil _ _ _ _, hmk, fun x hx => by simp at hx, List.nodup_nil⟩
    case round =>
      clear hx hmk
      obtain ⟨i, A, c, L, rfl, rfl, hil, him, hLi, hx, hown, hmk, hok, hnd⟩ := hrel
      have HX := Lib.hid hx
      have HOWN := Lib.hid hown
      have HMK := Lib.hid hmk
      have HOK := Lib.hid (And.intro hok hnd)
      clear hx hown hmk hok hnd
      by_cases hlt : i < l.length
      · by_cases h30 : i < most
        · have hltI : (i : Int) < (l.length : Int) := by omega
          have h30I : (i : Int) < (most : Int) := by omega
          have HLL := Lib.hid (show L.length ≤ i ∧ i < most ∧ most ≤ 1000 ∧ i < l.length from ⟨hLi, h30, HMO.out, hlt⟩)
          obtain ⟨b, o, rfl, hcell⟩ := HP.out i hlt
          obtain ⟨r, hr⟩ : ∃ r, r = l[i] := ⟨_, rfl⟩
          have hI := (HMM.out _ (List.getElem_mem hlt)).2
          rw [← hr] at hI
          have q0 := HX.out.cell (hcell i hlt 0 _ rfl)
          have q1 := HX.out.cell (hcell i hlt 1 _ rfl)
          have q2 := HX.out.cell (hcell i hlt 2 _ rfl)
          have q3 := HX.out.cell (hcell i hlt 3 _ rfl)
          rw [← hr] at q0 q1 q2 q3
          simp only [Nat.add_zero] at q0
          have HI := Lib.hid hI
          clear hcell hr hI hlt h30 hil him hLi
          go_wp2_with fail
          refine calls_abs (fun W => Ext wr W ∧ Blk_ W wr.heap.size 82 #[.int .i64 r.kind, .int .i64 r.a, .int .i64 r.b, .int .i64 r.c]) ⟨(Ext.refl _).alloc _, Blk_.new _ _ _⟩ ?_
          rintro w2 ⟨hx2, hb2⟩
          refine (picked_any r.a (q : Int) w2 HI.out.2.1 (by omega) (by omega)).mono ?_
          rintro e wz ⟨rfl, hw⟩
          obtain rfl := hw.symm
          have hpr := pick_range r.a (q : Int) (by omega)
          obtain ⟨n, hn⟩ := Int.eq_ofNat_of_zero_le hpr.1
          rw [hn] at hpr ⊢
          have HNN := Lib.hid (show n < q ∧ 0 < q by omega)
          have hn64 : (n : Int) < 64 := by omega
          have HX2 := Lib.hid (HX.out.trans hx2)
          have HOWN0 := HOWN
          have HMK0 := HMK
          have HOWN2 := Lib.hid (own_ext HOWN.out hx2)
          have HMK2 := Lib.hid (HMK.out.grown (hx2.by_ none) (by simp))
          clear HX HOWN HMK
          have HX := HX2
          have HOWN := HOWN2
          have HMK := HMK2
          clear HX2 HOWN2 HMK2
          have HB12 := Lib.hid hb2
          obtain ⟨g12, hg12⟩ : ∃ g, g = wr.heap.size := ⟨_, rfl⟩
          rw [← hg12] at HB12 ⊢
          have HRW := Lib.hid (show ∀ q, (Value.slice A L.length c).ownBlock = some q → q ≠ g12 from fun q hq => by have := (HOWN0.out.lt q hq).2; omega)
          have f0 := HB12.out.cell 0
          simp at f0
          have hbg := HB12.out.lt
          have HG12 := Lib.hid (show bm < g12 by rw [hg12]; exact HMK0.out.lt)
          clear hpr hn hx2 hb2 q0 q1 q2 q3 hg12 HOWN0 HMK0
          go_wp2_with fail
          refine (picked_any r.kind 12 w2 HI.out.1 (by omega) (by omega)).mono ?_
          rintro e wz ⟨rfl, hw⟩
          obtain rfl := hw.symm
          have hkr := pick_range r.kind 12 (by decide)
          obtain ⟨kk, hkk⟩ : ∃ kk, kk = pick r.kind 12 := ⟨_, rfl⟩
          rw [← hkk] at hkr ⊢
          clear hkk f0 hbg
          by_cases hA : kk < 5
          · clear hkr
            go_wp2_with (at_builtin; refine wpList_append_at _ rfl (.tmp 45) (.tmp 49) 23 rfl (w.heap.size + 1) 39 i1 (.agg #[.int .i64 0, .slice none 0 0, .string .empty, .int .i64 0, .int .i64 0, .int .i64 0, .int .i64 0]) 7 80 Tryz.underlying23 HIE.out.1 HIE.out.2.1 HIE.out.2.2.1 HIE.out.2.2.2 rfl (by decide) (.slice A L.length c) L.length _ rfl (own_ext HOWN.out ((Ext.refl _).alloc _)) ⟨w2.heap.size, 0, none⟩ 1 1 [.int .i64 4, .slice none 0 0, .string ⟨#[]⟩, .int .i64 (d : Int), .int .i64 (n : Int), .int .i64 0, .int .i64 0] rfl rfl ?c1 ?c2 ?c3 ?c4 ?c5 ?_)
            case c1 =>
              intro j u hu
              rw [Addr.add_lit, Nat.zero_add, (Blk_.new w2 39 _).cell]
              simpa using hu
            case c2 =>
              intro u hu
              simp only [List.mem_cons, List.not_mem_nil, or_false] at hu
              rcases hu with rfl | rfl | rfl | rfl | rfl | rfl | rfl <;> rfl
            case c3 => have := HLL.out; unfold maxLen; omega
            case c4 => have := HLL.out; omega
            case c5 => have := HX.out.size; have := HBM.out; rw [World.size_alloc]; omega
            intro A' c' w3 own3 hg3 _
            have HOWN3 := Lib.hid own3
            have HMK3 := Lib.hid ((HMK.out.grown (((Ext.refl w2).alloc _).by_ none) (by simp)).grown hg3 (by intro e; have := (HOWN.out.lt _ e.symm).1; have := HBM.out; omega))
            have HX3 := Lib.hid ((HX.out.alloc _).grown hg3 (fun q hq => by have := (HOWN.out.lt _ hq).1; omega))
            clear own3 hg3
            go_wp2_with fail
            go_roundw
            case rel =>
              have hll := HLL.out
              refine ⟨i + 1, A', c', L ++ [(⟨4, d, (n : Int), 0, 0⟩ : HA)], by rw [List.length_append]; rfl, by first | rfl | go_num, by omega, by omega, by rw [List.length_append]; show L.length + 1 ≤ i + 1; omega, HX3.out, ?_, ?_, ?_, ?_⟩
              · rw [List.length_append, List.flatMap_append]
                exact HOWN3.out
              · rw [turned_snoc, if_neg (by show ¬ (4 : Int) = 5; decide), List.append_nil]
                exact HMK3.out.mono (by omega)
              · intro y hy
                rcases List.mem_append.1 hy with hy | hy
                · exact HOK.out.1 y hy
                · obtain rfl := List.mem_singleton.1 hy
                  have := HNN.out
                  exact ⟨rfl, by first | exact Or.inl rfl | exact Or.inr (Or.inr rfl), by dsimp only; omega, by dsimp only; omega, by dsimp only; omega, by dsimp only; omega, by dsimp only; omega, by dsimp only; omega⟩
              · rw [turned_snoc, if_neg (by show ¬ (4 : Int) = 5; decide), List.append_nil]
                exact HOK.out.2
            case measure => have := HLL.out; (simp [intOf]; try omega)
          · by_cases hB : kk < 11
            · have hA' : (5 : Int) ≤ kk := by omega
              have hlk := HMK.out.look (n : Int) (by unfold I64; omega)
              cases hT : (turned L).contains (n : Int) with
              | true =>
                rw [hT] at hlk
                have hne : (kk == 11) = false := beq_false_of_ne (by omega)
                clear hA hkr
                go_wp2_with fail
                go_roundw
                case rel => have hll := HLL.out; exact ⟨i + 1, A, c, L, rfl, by first | rfl | go_num, by omega, by omega, by omega, HX.out, HOWN.out, HMK.out.mono (by omega), HOK.out.1, HOK.out.2⟩
                case measure => have := HLL.out; (simp [intOf]; try omega)
              | false =>
                rw [hT] at hlk
                have HTT := Lib.hid hT
                clear hA hkr hT
                obtain ⟨DD, hown, hD⟩ := HMK.out
                have HDD := Lib.hid hD
                clear hD
                go_wp2_with (first | (at_mapUpdate; refine Go.wpList_mapUpdate_own _ rfl _ _ _ 80 rfl 3 4 law_int Tryz.underlying80 _ bm i _ rfl hown (by have := HLL.out; unfold maxLen; omega) _ _ _ rfl rfl (keyOf_n n (by omega)) _ [] (plainElem_bool Tryz.underlying4 true) ?_; intro w3 hown3 hg3) | fail)
                have hmk3 : Marks w3 bm (i + 1) ((n : Int) :: turned L) := Marks.put ⟨hown, HDD.out⟩ hown3
                have HMKn := Lib.hid hmk3
                have HOWNn := Lib.hid (own_grown HOWN.out hg3 (fun g hg e => by injection e with e; have := (HOWN.out.lt g hg).1; have := HBM.out; omega))
                have HXn := Lib.hid (HX.out.grown hg3 (fun q hq => by obtain rfl := Option.some.inj hq; rw [HBM.out]; exact Nat.le_refl _))
                have HB12n := Lib.hid (HB12.out.grown hg3 (fun q hq => by obtain rfl := Option.some.inj hq; have := HG12.out; omega))
                clear hmk3 hown hown3 hg3 hlk HDD HMK HOWN HX HB12
                have HMK := HMKn
                have HOWN := HOWNn
                have HX := HXn
                have HB12 := HB12n
                clear HMKn HOWNn HXn HB12n
                go_wp2_with fail
                refine wp_abs (fun W => Ext w W ∧ W.ownsRow (w.heap.size + 1) 39 7 (.slice A L.length c) L.length (L.flatMap encHA) ∧ Marks W bm (i + 1) ((n : Int) :: turned L) ∧ Blk_ W g12 82 #[.int .i64 r.kind, .int .i64 r.a, .int .i64 r.b, .int .i64 r.c]) ⟨HX.out, HOWN.out, HMK.out, HB12.out⟩ ?_
                clear HX HOWN HMK HB12
                rintro W ⟨hx, hown, hmk, hb12⟩
                have HX := Lib.hid hx
                have HOWN := Lib.hid hown
                have HMK := Lib.hid hmk
                have HB12 := Lib.hid hb12
                obtain ⟨ro, hro⟩ : ∃ ro, ro = (Value.slice A L.length c).ownBlock := ⟨_, rfl⟩
                have HRO := Lib.hid hro
                obtain ⟨N0, hN0⟩ : ∃ N, N = W.heap.size := ⟨_, rfl⟩
                have HN0 := Lib.hid hN0
                have HRB := Lib.hid (show ∀ q, ro = some q → w.heap.size + 1 ≤ q from fun q hq => (hown.lt q (hro.symm.trans hq)).1)
                have HRL := Lib.hid (show ∀ q, ro = some q → q < N0 from fun q hq => by rw [hN0]; exact (hown.lt q (hro.symm.trans hq)).2)
                have HRG := Lib.hid (show ∀ q, ro = some q → q ≠ g12 from fun q hq => HRW.out q (hro.symm.trans hq))
                clear hx hown hmk hb12 hro hN0
                refine wp_region_valsA 11 ro (F := ?_) ?_ [(fun (v : Value) (_ : World) => v = .slice A L.length c), (fun (v : Value) (_ : World) => v = .int .i64 (d : Int)), (fun (v : Value) (_ : World) => v = .int .i64 (n : Int)), (fun (v : Value) (_ : World) => v = .pointer (some ⟨g12, 2, none⟩)), (fun (v : Value) (_ : World) => v = .int .i64 r.b), (fun (v : Value) (_ : World) => v = .int .i64 (pick r.b 30)), (fun (v : Value) (_ : World) => v = .pointer (some ⟨g12, 3, none⟩)), (fun (v : Value) (_ : World) => v = .int .i64 r.c), (fun (v : Value) (_ : World) => v = .int .i64 (pick r.c 256)), (fun (v : Value) (_ : World) => v = .agg #[.int .i64 5, .slice none 0 0, .string .empty, .int .i64 (d : Int), .int .i64 (n : Int), .int .i64 (pick r.b 30), .int .i64 (pick r.c 256)]), (fun v u => ∃ g, v = .slice (some ⟨g, 0, none⟩) 1 1 ∧ Blk_ u g 39 #[.int .i64 5, .slice none 0 0, .string .empty, .int .i64 (d : Int), .int .i64 (n : Int), .int .i64 (pick r.b 30), .int .i64 (pick r.c 256)] ∧ N0 ≤ g), (fun v u => ∃ A' c', v = .slice A' (L.length + 1) c' ∧ u.ownsRow (w.heap.size + 1) 39 7 (.slice A' (L.length + 1) c') (L.length + 1) (L.flatMap encHA ++ [.int .i64 5, .slice none 0 0, .string .empty, .int .i64 (d : Int), .int .i64 (n : Int), .int .i64 (pick r.b 30), .int .i64 (pick r.c 256)]))] (by kernel_rfl) rfl (by kernel_rfl) rfl (by kernel_rfl) ?_ ?_ ?_
                rotate_left
                · intro vals
                  simp only [putAll, List.dropLast, Act.put, List.setIfInBounds_toArray, List.set_cons_zero, List.set_cons_succ, Nat.zero_add, Nat.reduceAdd]
                  rfl
                · intro j p hp v u u' h hr
                  match j, hp with
                  | 0, hp => obtain rfl := Option.some.inj hp; exact h
                  | 1, hp => obtain rfl := Option.some.inj hp; exact h
                  | 2, hp => obtain rfl := Option.some.inj hp; exact h
                  | 3, hp => obtain rfl := Option.some.inj hp; exact h
                  | 4, hp => obtain rfl := Option.some.inj hp; exact h
                  | 5, hp => obtain rfl := Option.some.inj hp; exact h
                  | 6, hp => obtain rfl := Option.some.inj hp; exact h
                  | 7, hp => obtain rfl := Option.some.inj hp; exact h
                  | 8, hp => obtain rfl := Option.some.inj hp; exact h
                  | 9, hp => obtain rfl := Option.some.inj hp; exact h
                  | 10, hp => obtain rfl := Option.some.inj hp; rw [if_neg (by decide)] at hr; exact (by obtain ⟨g, hg, hb, hn⟩ := h; exact ⟨g, hg, hb.grown hr (fun q hq => by have := HRL.out q hq; omega), hn⟩)
                  | 11, hp => obtain rfl := Option.some.inj hp; rw [if_pos rfl] at hr; exact (by obtain ⟨A', c', hv, ho⟩ := h; exact ⟨A', c', hv, own_ext ho hr⟩)
                  | n + 12, hp => exact absurd hp (by simp)
                · refine ⟨?_, ?_, ?_, ?_, ?_, ?_, ?_, ?_, ?_, ?_, ?_, ?_, trivial⟩
                  · intro vals W' e hd ho K hK
                    have hx : World.grownBy _ W' ro := e
                    refine st_quiet (v := ?_) ?_ ?_
                    rotate_left
                    · go_simp
                      rfl
                    exact hK _ _ _ rfl (by first | exact rfl | exact congrArg (Value.int _) (by first | (rw [IntKind.wrap_i64]; omega) | (rw [IntKind.wrap_u8]; omega) | omega)) (Ext.refl _)
                  · intro vals W' e hd ho K hK
                    have hx : World.grownBy _ W' ro := e
                    refine st_quiet (v := ?_) ?_ ?_
                    rotate_left
                    · go_simp
                      rfl
                    exact hK _ _ _ rfl (by first | exact rfl | exact congrArg (Value.int _) (by first | (rw [IntKind.wrap_i64]; omega) | (rw [IntKind.wrap_u8]; omega) | omega)) (Ext.refl _)
                  · intro vals W' e hd ho K hK
                    have hx : World.grownBy _ W' ro := e
                    refine st_quiet (v := ?_) ?_ ?_
                    rotate_left
                    · go_simp
                      rfl
                    exact hK _ _ _ rfl (by first | exact rfl | exact congrArg (Value.int _) (by first | (rw [IntKind.wrap_i64]; omega) | (rw [IntKind.wrap_u8]; omega) | omega)) (Ext.refl _)
                  · intro vals W' e hd ho K hK
                    have hx : World.grownBy _ W' ro := e
                    refine st_quiet (v := ?_) ?_ ?_
                    rotate_left
                    · go_simp
                      rfl
                    exact hK _ _ _ rfl (by first | exact rfl | exact congrArg (Value.int _) (by first | (rw [IntKind.wrap_i64]; omega) | (rw [IntKind.wrap_u8]; omega) | omega)) (Ext.refl _)
                  · intro vals W' e hd ho K hK
                    have h3 : vals 3 = .pointer (some ⟨g12, 2, none⟩) := hd 3 (by kernel_rfl)
                    have hx : World.grownBy _ W' ro := e
                    have cc := (HB12.out.drew.grown hx HRG.out).cell 2
                    simp at cc
                    refine st_quiet (v := ?_) ?_ ?_
                    rotate_left
                    · go_simp
                      rfl
                    exact hK _ _ _ rfl rfl (Ext.refl _)
                  · intro vals W' e hd ho K hK
                    have h4 : vals 4 = .int .i64 r.b := hd 4 (by kernel_rfl)
                    have hx : World.grownBy _ W' ro := e
                    go_wp2_with fail
                    refine (picked_any r.b 30 _ HI.out.2.2.1 (by omega) (by omega)).mono ?_
                    rintro e' u' ⟨rfl, rfl⟩
                    exact hK _ _ _ (by first | rfl | (simp only [h4]; rfl)) rfl (Ext.refl _)
                  · intro vals W' e hd ho K hK
                    have hx : World.grownBy _ W' ro := e
                    refine st_quiet (v := ?_) ?_ ?_
                    rotate_left
                    · go_simp
                      rfl
                    exact hK _ _ _ rfl (by first | exact rfl | exact congrArg (Value.int _) (by first | (rw [IntKind.wrap_i64]; omega) | (rw [IntKind.wrap_u8]; omega) | omega)) (Ext.refl _)
                  · intro vals W' e hd ho K hK
                    have h6 : vals 6 = .pointer (some ⟨g12, 3, none⟩) := hd 6 (by kernel_rfl)
                    have hx : World.grownBy _ W' ro := e
                    have cc := (HB12.out.drew.grown hx HRG.out).cell 3
                    simp at cc
                    refine st_quiet (v := ?_) ?_ ?_
                    rotate_left
                    · go_simp
                      rfl
                    exact hK _ _ _ rfl rfl (Ext.refl _)
                  · intro vals W' e hd ho K hK
                    have h7 : vals 7 = .int .i64 r.c := hd 7 (by kernel_rfl)
                    have hx : World.grownBy _ W' ro := e
                    go_wp2_with fail
                    refine (picked_any r.c 256 _ HI.out.2.2.2 (by omega) (by omega)).mono ?_
                    rintro e' u' ⟨rfl, rfl⟩
                    exact hK _ _ _ (by first | rfl | (simp only [h7]; rfl)) rfl (Ext.refl _)
                  · intro vals W' e hd ho K hK
                    have h1 : vals 1 = .int .i64 (d : Int) := hd 1 (by kernel_rfl)
                    have h2 : vals 2 = .int .i64 (n : Int) := hd 2 (by kernel_rfl)
                    have h5 : vals 5 = .int .i64 (pick r.b 30) := hd 5 (by kernel_rfl)
                    have h8 : vals 8 = .int .i64 (pick r.c 256) := hd 8 (by kernel_rfl)
                    have hx : World.grownBy _ W' ro := e
                    refine st_quiet (v := ?_) ?_ ?_
                    rotate_left
                    · go_simp
                      rfl
                    exact hK _ _ _ rfl (by first | exact rfl | exact congrArg (Value.int _) (by first | (rw [IntKind.wrap_i64]; omega) | (rw [IntKind.wrap_u8]; omega) | omega)) (Ext.refl _)
                  · intro vals W' e hd ho K hK
                    have h9 : vals 9 = .agg #[.int .i64 5, .slice none 0 0, .string .empty, .int .i64 (d : Int), .int .i64 (n : Int), .int .i64 (pick r.b 30), .int .i64 (pick r.c 256)] := hd 9 (by kernel_rfl)
                    have hx : World.grownBy _ W' ro := e
                    go_wp2_with fail
                    exact hK _ _ _ (by first | rfl | (simp only [h9]; rfl)) ⟨W'.heap.size, rfl, Blk_.new _ _ _, by have := hx.size; have := HN0.out; simp only [size_drew_] at *; omega⟩ ((Ext.refl W').alloc _)
                  · intro vals W' e hd ho K hK
                    have h0 : vals 0 = .slice A L.length c := hd 0 (by kernel_rfl)
                    obtain ⟨g10, h10, b10, n10⟩ := hd 10 (by kernel_rfl)
                    have hx : Ext _ W' := e
                    refine wp_append_at W' (.tmp 62) (.tmp 72) 23 rfl (w.heap.size + 1) 39 i1 (.agg #[.int .i64 0, .slice none 0 0, .string .empty, .int .i64 0, .int .i64 0, .int .i64 0, .int .i64 0]) 7 80 Tryz.underlying23 HIE.out.1 HIE.out.2.1 HIE.out.2.2.1 HIE.out.2.2.2 rfl (by decide) (.slice A L.length c) L.length _ h0 (own_ext HOWN.out ((Ext.refl _).drew.trans hx)) ⟨g10, 0, none⟩ 1 1 [.int .i64 5, .slice none 0 0, .string .empty, .int .i64 (d : Int), .int .i64 (n : Int), .int .i64 (pick r.b 30), .int .i64 (pick r.c 256)] h10 rfl ?_ ?_ ?_ ?_ ?_ ?_
                    · intro j u hu
                      rw [Addr.add_lit, Nat.zero_add, b10.cell]
                      simpa using hu
                    · intro u hu
                      simp only [List.mem_cons, List.not_mem_nil, or_false] at hu
                      rcases hu with rfl | rfl | rfl | rfl | rfl | rfl | rfl <;> rfl
                    · have := HLL.out; unfold maxLen; omega
                    · have := HLL.out; omega
                    · have := hx.below.size
                      have h5 := HX.out.size
                      have h6 := HB12.out.lt
                      have h7 := HG12.out
                      have := HBM.out
                      simp only [size_drew_] at *
                      omega
                    intro A' c' u' own hg _
                    exact hK _ _ _ rfl ⟨A', c', rfl, own⟩ (by rw [← HRO.out] at hg; exact hg)
                intro vals W' e hall K hK
                obtain ⟨A', c', h11, own3⟩ := hall 11 (by decide)
                rw [HRO.out] at e
                have HOWN3 := Lib.hid own3
                have HMK3 := Lib.hid ((HMK.out.grown ((Ext.refl W).drew.by_ none) (by simp)).grown e (by intro e'; have := HRB.out _ (HRO.out.trans e'.symm); have := HBM.out; omega))
                have HX3 := Lib.hid ((HX.out.drew).grown e (fun q hq => by have := HRB.out q (HRO.out.trans hq); omega))
                clear hall e own3
                go_wp2_with fail
                go_roundw
                case rel =>
                  have hll := HLL.out
                  have p1 := pick_range r.b 30 (by decide)
                  have p2 := pick_range r.c 256 (by decide)
                  refine ⟨i + 1, A', c', L ++ [(⟨5, d, (n : Int), pick r.b 30, pick r.c 256⟩ : HA)], by rw [List.length_append]; exact h11, by first | rfl | go_num, by omega, by omega, by rw [List.length_append]; show L.length + 1 ≤ i + 1; omega, HX3.out, ?_, ?_, ?_, ?_⟩
                  · rw [List.length_append, List.flatMap_append]
                    exact HOWN3.out
                  · rw [turned_snoc, if_pos rfl]
                    exact HMK3.out.congr (fun x => by simp [Bool.or_comm])
                  · intro y hy
                    rcases List.mem_append.1 hy with hy | hy
                    · exact HOK.out.1 y hy
                    · obtain rfl := List.mem_singleton.1 hy
                      have := HNN.out
                      exact ⟨rfl, Or.inr (Or.inl rfl), by dsimp only; omega, by dsimp only; omega, by dsimp only; omega, by dsimp only; omega, by dsimp only; omega, by dsimp only; omega⟩
                  · rw [turned_snoc, if_pos rfl]
                    refine List.nodup_append.2 ⟨HOK.out.2, by simp, fun x hx y hy e => ?_⟩
                    obtain rfl := List.mem_singleton.1 hy
                    subst e
                    have := HTT.out
                    rw [List.contains_iff_mem.2 hx] at this
                    cases this
                case measure => have := HLL.out; (simp [intOf]; try omega)
            · obtain rfl : kk = 11 := by omega
              clear hA hB hkr
              go_wp2_with (at_builtin; refine wpList_append_at _ rfl (.tmp 77) (.tmp 80) 23 rfl (w.heap.size + 1) 39 i1 (.agg #[.int .i64 0, .slice none 0 0, .string .empty, .int .i64 0, .int .i64 0, .int .i64 0, .int .i64 0]) 7 80 Tryz.underlying23 HIE.out.1 HIE.out.2.1 HIE.out.2.2.1 HIE.out.2.2.2 rfl (by decide) (.slice A L.length c) L.length _ rfl (own_ext HOWN.out ((Ext.refl _).alloc _)) ⟨w2.heap.size, 0, none⟩ 1 1 [.int .i64 6, .slice none 0 0, .string ⟨#[]⟩, .int .i64 (d : Int), .int .i64 0, .int .i64 0, .int .i64 0] rfl rfl ?c1 ?c2 ?c3 ?c4 ?c5 ?_)
              case c1 =>
                intro j u hu
                rw [Addr.add_lit, Nat.zero_add, (Blk_.new w2 39 _).cell]
                simpa using hu
              case c2 =>
                intro u hu
                simp only [List.mem_cons, List.not_mem_nil, or_false] at hu
                rcases hu with rfl | rfl | rfl | rfl | rfl | rfl | rfl <;> rfl
              case c3 => have := HLL.out; unfold maxLen; omega
              case c4 => have := HLL.out; omega
              case c5 => have := HX.out.size; have := HBM.out; rw [World.size_alloc]; omega
              intro A' c' w3 own3 hg3 _
              have HOWN3 := Lib.hid own3
              have HMK3 := Lib.hid ((HMK.out.grown (((Ext.refl w2).alloc _).by_ none) (by simp)).grown hg3 (by intro e; have := (HOWN.out.lt _ e.symm).1; have := HBM.out; omega))
              have HX3 := Lib.hid ((HX.out.alloc _).grown hg3 (fun q hq => by have := (HOWN.out.lt _ hq).1; omega))
              clear own3 hg3
              go_wp2_with fail
              go_roundw
              case rel =>
                have hll := HLL.out
                refine ⟨i + 1, A', c', L ++ [(⟨6, d, 0, 0, 0⟩ : HA)], by rw [List.length_append]; rfl, by first | rfl | go_num, by omega, by omega, by rw [List.length_append]; show L.length + 1 ≤ i + 1; omega, HX3.out, ?_, ?_, ?_, ?_⟩
                · rw [List.length_append, List.flatMap_append]
                  exact HOWN3.out
                · rw [turned_snoc, if_neg (by show ¬ (6 : Int) = 5; decide), List.append_nil]
                  exact HMK3.out.mono (by omega)
                · intro y hy
                  rcases List.mem_append.1 hy with hy | hy
                  · exact HOK.out.1 y hy
                  · obtain rfl := List.mem_singleton.1 hy
                    have := HNN.out
                    exact ⟨rfl, by first | exact Or.inl rfl | exact Or.inr (Or.inr rfl), by dsimp only; omega, by dsimp only; omega, by dsimp only; omega, by dsimp only; omega, by dsimp only; omega, by dsimp only; omega⟩
                · rw [turned_snoc, if_neg (by show ¬ (6 : Int) = 5; decide), List.append_nil]
                  exact HOK.out.2
              case measure => have := HLL.out; (simp [intOf]; try omega)
        · have hltI : (i : Int) < (l.length : Int) := by omega
          have h9I : (most : Int) ≤ (i : Int) := by omega
          have HLN := Lib.hid (show L.length ≤ 1000 by have := HMO.out; omega)
          clear hlt h30 hil him hLi
          go_wp2_with fail
          go_ret
          exact ⟨A, c, L, rfl, HX.out, HOWN.out, HOK.out.1, HOK.out.2, HLN.out⟩
      · have hltI : (l.length : Int) ≤ (i : Int) := by omega
        have HLN := Lib.hid (show L.length ≤ 1000 by have := HMO.out; omega)
        clear hlt hil him hLi
        go_wp2_with fail
        go_ret
        exact ⟨A, c, L, rfl, HX.out, HOWN.out, HOK.out.1, HOK.out.2, HLN.out⟩
  · rw [if_neg h2]
    have hdI : ((d : Int) == 2) = false := beq_false_of_ne (by omega)
    have hq64 : (m : Int) ≤ 64 := by omega
    have hq1 : (1 : Int) ≤ (m : Int) := by omega
    clear h16 h64 hmo h2 hd
    go_enter Tryz.func15, Tryz.ntmps15
    go_wp2_with fail
    refine wp_abs (fun W => Ext w W ∧ Marks W w.heap.size 0 []) ⟨(Ext.refl _).alloc _, Marks.made w⟩ ?_
    rintro W ⟨hx, hmk⟩
    obtain ⟨bm, hbm⟩ : ∃ bm, bm = w.heap.size := ⟨_, rfl⟩
    rw [← hbm] at hmk ⊢
    have HBM := Lib.hid hbm
    clear hbm hmm
    go_loopw [9, 11] (fun pv kv wr => ∃ (i : Nat) (A : Option Addr) (c : Nat) (L : List HA), pv = .slice A L.length c ∧ kv = .int .i64 i ∧ i ≤ l.length ∧ i ≤ most ∧ L.length ≤ i ∧ Ext w wr ∧ wr.ownsRow (w.heap.size + 1) 39 7 (.slice A L.length c) L.length (L.flatMap encHA) ∧ Marks wr bm i (turned L) ∧ (∀ x ∈ L, ActOk d m x) ∧ (turned L).Nodup) (fun _ kv _ => most - (intOf kv).toNat)
    case atStart => exact ⟨0, none, 0, [], rfl, rfl, by omega, by omega, by simp, hx, World.ownsRow_nil _ _ _ _, hmk, fun x hx => by simp at hx, List.nodup_nil⟩
    case round =>
      clear hx hmk
      obtain ⟨i, A, c, L, rfl, rfl, hil, him, hLi, hx, hown, hmk, hok, hnd⟩ := hrel
      have HX := Lib.hid hx
      have HOWN := Lib.hid hown
      have HMK := Lib.hid hmk
      have HOK := Lib.hid (And.intro hok hnd)
      clear hx hown hmk hok hnd
      by_cases hlt : i < l.length
      · by_cases h30 : i < most
        · have hltI : (i : Int) < (l.length : Int) := by omega
          have h30I : (i : Int) < (most : Int) := by omega
          have HLL := Lib.hid (show L.length ≤ i ∧ i < most ∧ most ≤ 1000 ∧ i < l.length from ⟨hLi, h30, HMO.out, hlt⟩)
          obtain ⟨b, o, rfl, hcell⟩ := HP.out i hlt
          obtain ⟨r, hr⟩ : ∃ r, r = l[i] := ⟨_, rfl⟩
          have hI := (HMM.out _ (List.getElem_mem hlt)).2
          rw [← hr] at hI
          have q0 := HX.out.cell (hcell i hlt 0 _ rfl)
          have q1 := HX.out.cell (hcell i hlt 1 _ rfl)
          have q2 := HX.out.cell (hcell i hlt 2 _ rfl)
          have q3 := HX.out.cell (hcell i hlt 3 _ rfl)
          rw [← hr] at q0 q1 q2 q3
          simp only [Nat.add_zero] at q0
          have HI := Lib.hid hI
          clear hcell hr hI hlt h30 hil him hLi
          go_wp2_with fail
          refine calls_abs (fun W => Ext wr W ∧ Blk_ W wr.heap.size 82 #[.int .i64 r.kind, .int .i64 r.a, .int .i64 r.b, .int .i64 r.c]) ⟨(Ext.refl _).alloc _, Blk_.new _ _ _⟩ ?_
          rintro w2 ⟨hx2, hb2⟩
          refine (picked_any r.a (m : Int) w2 HI.out.2.1 (by omega) (by omega)).mono ?_
          rintro e wz ⟨rfl, hw⟩
          obtain rfl := hw.symm
          have hpr := pick_range r.a (m : Int) (by omega)
          obtain ⟨n, hn⟩ := Int.eq_ofNat_of_zero_le hpr.1
          rw [hn] at hpr ⊢
          have HNN := Lib.hid (show n < m ∧ 0 < m by omega)
          have hn64 : (n : Int) < 64 := by omega
          have HX2 := Lib.hid (HX.out.trans hx2)
          have HOWN0 := HOWN
          have HMK0 := HMK
          have HOWN2 := Lib.hid (own_ext HOWN.out hx2)
          have HMK2 := Lib.hid (HMK.out.grown (hx2.by_ none) (by simp))
          clear HX HOWN HMK
          have HX := HX2
          have HOWN := HOWN2
          have HMK := HMK2
          clear HX2 HOWN2 HMK2
          have HB12 := Lib.hid hb2
          obtain ⟨g12, hg12⟩ : ∃ g, g = wr.heap.size := ⟨_, rfl⟩
          rw [← hg12] at HB12 ⊢
          have HRW := Lib.hid (show ∀ q, (Value.slice A L.length c).ownBlock = some q → q ≠ g12 from fun q hq => by have := (HOWN0.out.lt q hq).2; omega)
          have f0 := HB12.out.cell 0
          simp at f0
          have hbg := HB12.out.lt
          have HG12 := Lib.hid (show bm < g12 by rw [hg12]; exact HMK0.out.lt)
          clear hpr hn hx2 hb2 q0 q1 q2 q3 hg12 HOWN0 HMK0
          go_wp2_with fail
          refine (picked_any r.kind 12 w2 HI.out.1 (by omega) (by omega)).mono ?_
          rintro e wz ⟨rfl, hw⟩
          obtain rfl := hw.symm
          have hkr := pick_range r.kind 12 (by decide)
          obtain ⟨kk, hkk⟩ : ∃ kk, kk = pick r.kind 12 := ⟨_, rfl⟩
          rw [← hkk] at hkr ⊢
          clear hkk f0 hbg
          by_cases hA : kk < 5
          · clear hkr
            go_wp2_with (at_builtin; refine wpList_append_at _ rfl (.tmp 45) (.tmp 49) 23 rfl (w.heap.size + 1) 39 i1 (.agg #[.int .i64 0, .slice none 0 0, .string .empty, .int .i64 0, .int .i64 0, .int .i64 0, .int .i64 0]) 7 80 Tryz.underlying23 HIE.out.1 HIE.out.2.1 HIE.out.2.2.1 HIE.out.2.2.2 rfl (by decide) (.slice A L.length c) L.length _ rfl (own_ext HOWN.out ((Ext.refl _).alloc _)) ⟨w2.heap.size, 0, none⟩ 1 1 [.int .i64 4, .slice none 0 0, .string ⟨#[]⟩, .int .i64 (d : Int), .int .i64 (n : Int), .int .i64 0, .int .i64 0] rfl rfl ?c1 ?c2 ?c3 ?c4 ?c5 ?_)
            case c1 =>
              intro j u hu
              rw [Addr.add_lit, Nat.zero_add, (Blk_.new w2 39 _).cell]
              simpa using hu
            case c2 =>
              intro u hu
              simp only [List.mem_cons, List.not_mem_nil, or_false] at hu
              rcases hu with rfl | rfl | rfl | rfl | rfl | rfl | rfl <;> rfl
            case c3 => have := HLL.out; unfold maxLen; omega
            case c4 => have := HLL.out; omega
            case c5 => have := HX.out.size; have := HBM.out; rw [World.size_alloc]; omega
            intro A' c' w3 own3 hg3 _
            have HOWN3 := Lib.hid own3
            have HMK3 := Lib.hid ((HMK.out.grown (((Ext.refl w2).alloc _).by_ none) (by simp)).grown hg3 (by intro e; have := (HOWN.out.lt _ e.symm).1; have := HBM.out; omega))
            have HX3 := Lib.hid ((HX.out.alloc _).grown hg3 (fun q hq => by have := (HOWN.out.lt _ hq).1; omega))
            clear own3 hg3
            go_wp2_with fail
            go_roundw
            case rel =>
              have hll := HLL.out
              refine ⟨i + 1, A', c', L ++ [(⟨4, d, (n : Int), 0, 0⟩ : HA)], by rw [List.length_append]; rfl, by first | rfl | go_num, by omega, by omega, by rw [List.length_append]; show L.length + 1 ≤ i + 1; omega, HX3.out, ?_, ?_, ?_, ?_⟩
              · rw [List.length_append, List.flatMap_append]
                exact HOWN3.out
              · rw [turned_snoc, if_neg (by show ¬ (4 : Int) = 5; decide), List.append_nil]
                exact HMK3.out.mono (by omega)
              · intro y hy
                rcases List.mem_append.1 hy with hy | hy
                · exact HOK.out.1 y hy
                · obtain rfl := List.mem_singleton.1 hy
                  have := HNN.out
                  exact ⟨rfl, by first | exact Or.inl rfl | exact Or.inr (Or.inr rfl), by dsimp only; omega, by dsimp only; omega, by dsimp only; omega, by dsimp only; omega, by dsimp only; omega, by dsimp only; omega⟩
              · rw [turned_snoc, if_neg (by show ¬ (4 : Int) = 5; decide), List.append_nil]
                exact HOK.out.2
            case measure => have := HLL.out; (simp [intOf]; try omega)
          · by_cases hB : kk < 11
            · have hA' : (5 : Int) ≤ kk := by omega
              have hlk := HMK.out.look (n : Int) (by unfold I64; omega)
              cases hT : (turned L).contains (n : Int) with
              | true =>
                rw [hT] at hlk
                have hne : (kk == 11) = false := beq_false_of_ne (by omega)
                clear hA hkr
                go_wp2_with fail
                go_roundw
                case rel => have hll := HLL.out; exact ⟨i + 1, A, c, L, rfl, by first | rfl | go_num, by omega, by omega, by omega, HX.out, HOWN.out, HMK.out.mono (by omega), HOK.out.1, HOK.out.2⟩
                case measure => have := HLL.out; (simp [intOf]; try omega)
              | false =>
                rw [hT] at hlk
                have HTT := Lib.hid hT
                clear hA hkr hT
                obtain ⟨DD, hown, hD⟩ := HMK.out
                have HDD := Lib.hid hD
                clear hD
                go_wp2_with (first | (at_mapUpdate; refine Go.wpList_mapUpdate_own _ rfl _ _ _ 80 rfl 3 4 law_int Tryz.underlying80 _ bm i _ rfl hown (by have := HLL.out; unfold maxLen; omega) _ _ _ rfl rfl (keyOf_n n (by omega)) _ [] (plainElem_bool Tryz.underlying4 true) ?_; intro w3 hown3 hg3) | fail)
                have hmk3 : Marks w3 bm (i + 1) ((n : Int) :: turned L) := Marks.put ⟨hown, HDD.out⟩ hown3
                have HMKn := Lib.hid hmk3
                have HOWNn := Lib.hid (own_grown HOWN.out hg3 (fun g hg e => by injection e with e; have := (HOWN.out.lt g hg).1; have := HBM.out; omega))
                have HXn := Lib.hid (HX.out.grown hg3 (fun q hq => by obtain rfl := Option.some.inj hq; rw [HBM.out]; exact Nat.le_refl _))
                have HB12n := Lib.hid (HB12.out.grown hg3 (fun q hq => by obtain rfl := Option.some.inj hq; have := HG12.out; omega))
                clear hmk3 hown hown3 hg3 hlk HDD HMK HOWN HX HB12
                have HMK := HMKn
                have HOWN := HOWNn
                have HX := HXn
                have HB12 := HB12n
                clear HMKn HOWNn HXn HB12n
                go_wp2_with fail
                refine wp_abs (fun W => Ext w W ∧ W.ownsRow (w.heap.size + 1) 39 7 (.slice A L.length c) L.length (L.flatMap encHA) ∧ Marks W bm (i + 1) ((n : Int) :: turned L) ∧ Blk_ W g12 82 #[.int .i64 r.kind, .int .i64 r.a, .int .i64 r.b, .int .i64 r.c]) ⟨HX.out, HOWN.out, HMK.out, HB12.out⟩ ?_
                clear HX HOWN HMK HB12
                rintro W ⟨hx, hown, hmk, hb12⟩
                have HX := Lib.hid hx
                have HOWN := Lib.hid hown
                have HMK := Lib.hid hmk
                have HB12 := Lib.hid hb12
                obtain ⟨ro, hro⟩ : ∃ ro, ro = (Value.slice A L.length c).ownBlock := ⟨_, rfl⟩
                have HRO := Lib.hid hro
                obtain ⟨N0, hN0⟩ : ∃ N, N = W.heap.size := ⟨_, rfl⟩
                have HN0 := Lib.hid hN0
                have HRB := Lib.hid (show ∀ q, ro = some q → w.heap.size + 1 ≤ q from fun q hq => (hown.lt q (hro.symm.trans hq)).1)
                have HRL := Lib.hid (show ∀ q, ro = some q → q < N0 from fun q hq => by rw [hN0]; exact (hown.lt q (hro.symm.trans hq)).2)
                have HRG := Lib.hid (show ∀ q, ro = some q → q ≠ g12 from fun q hq => HRW.out q (hro.symm.trans hq))
                clear hx hown hmk hb12 hro hN0
                refine wp_region_valsA 11 ro (F := ?_) ?_ [(fun (v : Value) (_ : World) => v = .slice A L.length c), (fun (v : Value) (_ : World) => v = .int .i64 (d : Int)), (fun (v : Value) (_ : World) => v = .int .i64 (n : Int)), (fun (v : Value) (_ : World) => v = .pointer (some ⟨g12, 2, none⟩)), (fun (v : Value) (_ : World) => v = .int .i64 r.b), (fun (v : Value) (_ : World) => v = .int .i64 (pick r.b 30)), (fun (v : Value) (_ : World) => v = .pointer (some ⟨g12, 3, none⟩)), (fun (v : Value) (_ : World) => v = .int .i64 r.c), (fun (v : Value) (_ : World) => v = .int .i64 (pick r.c 256)), (fun (v : Value) (_ : World) => v = .agg #[.int .i64 5, .slice none 0 0, .string .empty, .int .i64 (d : Int), .int .i64 (n : Int), .int .i64 (pick r.b 30), .int .i64 (pick r.c 256)]), (fun v u => ∃ g, v = .slice (some ⟨g, 0, none⟩) 1 1 ∧ Blk_ u g 39 #[.int .i64 5, .slice none 0 0, .string .empty, .int .i64 (d : Int), .int .i64 (n : Int), .int .i64 (pick r.b 30), .int .i64 (pick r.c 256)] ∧ N0 ≤ g), (fun v u => ∃ A' c', v = .slice A' (L.length + 1) c' ∧ u.ownsRow (w.heap.size + 1) 39 7 (.slice A' (L.length + 1) c') (L.length + 1) (L.flatMap encHA ++ [.int .i64 5, .slice none 0 0, .string .empty, .int .i64 (d : Int), .int .i64 (n : Int), .int .i64 (pick r.b 30), .int .i64 (pick r.c 256)]))] (by kernel_rfl) rfl (by kernel_rfl) rfl (by kernel_rfl) ?_ ?_ ?_
                rotate_left
                · intro vals
                  simp only [putAll, List.dropLast, Act.put, List.setIfInBounds_toArray, List.set_cons_zero, List.set_cons_succ, Nat.zero_add, Nat.reduceAdd]
                  rfl
                · intro j p hp v u u' h hr
                  match j, hp with
                  | 0, hp => obtain rfl := Option.some.inj hp; exact h
                  | 1, hp => obtain rfl := Option.some.inj hp; exact h
                  | 2, hp => obtain rfl := Option.some.inj hp; exact h
                  | 3, hp => obtain rfl := Option.some.inj hp; exact h
                  | 4, hp => obtain rfl := Option.some.inj hp; exact h
                  | 5, hp => obtain rfl := Option.some.inj hp; exact h
                  | 6, hp => obtain rfl := Option.some.inj hp; exact h
                  | 7, hp => obtain rfl := Option.some.inj hp; exact h
                  | 8, hp => obtain rfl := Option.some.inj hp; exact h
                  | 9, hp => obtain rfl := Option.some.inj hp; exact h
                  | 10, hp => obtain rfl := Option.some.inj hp; rw [if_neg (by decide)] at hr; exact (by obtain ⟨g, hg, hb, hn⟩ := h; exact ⟨g, hg, hb.grown hr (fun q hq => by have := HRL.out q hq; omega), hn⟩)
                  | 11, hp => obtain rfl := Option.some.inj hp; rw [if_pos rfl] at hr; exact (by obtain ⟨A', c', hv, ho⟩ := h; exact ⟨A', c', hv, own_ext ho hr⟩)
                  | n + 12, hp => exact absurd hp (by simp)
                · refine ⟨?_, ?_, ?_, ?_, ?_, ?_, ?_, ?_, ?_, ?_, ?_, ?_, trivial⟩
                  · intro vals W' e hd ho K hK
                    have hx : World.grownBy _ W' ro := e
                    refine st_quiet (v := ?_) ?_ ?_
                    rotate_left
                    · go_simp
                      rfl
                    exact hK _ _ _ rfl (by first | exact rfl | exact congrArg (Value.int _) (by first | (rw [IntKind.wrap_i64]; omega) | (rw [IntKind.wrap_u8]; omega) | omega)) (Ext.refl _)
                  · intro vals W' e hd ho K hK
                    have hx : World.grownBy _ W' ro := e
                    refine st_quiet (v := ?_) ?_ ?_
                    rotate_left
                    · go_simp
                      rfl
                    exact hK _ _ _ rfl (by first | exact rfl | exact congrArg (Value.int _) (by first | (rw [IntKind.wrap_i64]; omega) | (rw [IntKind.wrap_u8]; omega) | omega)) (Ext.refl _)
                  · intro vals W' e hd ho K hK
                    have hx : World.grownBy _ W' ro := e
                    refine st_quiet (v := ?_) ?_ ?_
                    rotate_left
                    · go_simp
                      rfl
                    exact hK _ _ _ rfl (by first | exact rfl | exact congrArg (Value.int _) (by first | (rw [IntKind.wrap_i64]; omega) | (rw [IntKind.wrap_u8]; omega) | omega)) (Ext.refl _)
                  · intro vals W' e hd ho K hK
                    have hx : World.grownBy _ W' ro := e
                    refine st_quiet (v := ?_) ?_ ?_
                    rotate_left
                    · go_simp
                      rfl
                    exact hK _ _ _ rfl (by first | exact rfl | exact congrArg (Value.int _) (by first | (rw [IntKind.wrap_i64]; omega) | (rw [IntKind.wrap_u8]; omega) | omega)) (Ext.refl _)
                  · intro vals W' e hd ho K hK
                    have h3 : vals 3 = .pointer (some ⟨g12, 2, none⟩) := hd 3 (by kernel_rfl)
                    have hx : World.grownBy _ W' ro := e
                    have cc := (HB12.out.drew.grown hx HRG.out).cell 2
                    simp at cc
                    refine st_quiet (v := ?_) ?_ ?_
                    rotate_left
                    · go_simp
                      rfl
                    exact hK _ _ _ rfl rfl (Ext.refl _)
                  · intro vals W' e hd ho K hK
                    have h4 : vals 4 = .int .i64 r.b := hd 4 (by kernel_rfl)
                    have hx : World.grownBy _ W' ro := e
                    go_wp2_with fail
                    refine (picked_any r.b 30 _ HI.out.2.2.1 (by omega) (by omega)).mono ?_
                    rintro e' u' ⟨rfl, rfl⟩
                    exact hK _ _ _ (by first | rfl | (simp only [h4]; rfl)) rfl (Ext.refl _)
                  · intro vals W' e hd ho K hK
                    have hx : World.grownBy _ W' ro := e
                    refine st_quiet (v := ?_) ?_ ?_
                    rotate_left
                    · go_simp
                      rfl
                    exact hK _ _ _ rfl (by first | exact rfl | exact congrArg (Value.int _) (by first | (rw [IntKind.wrap_i64]; omega) | (rw [IntKind.wrap_u8]; omega) | omega)) (Ext.refl _)
                  · intro vals W' e hd ho K hK
                    have h6 : vals 6 = .pointer (some ⟨g12, 3, none⟩) := hd 6 (by kernel_rfl)
                    have hx : World.grownBy _ W' ro := e
                    have cc := (HB12.out.drew.grown hx HRG.out).cell 3
                    simp at cc
                    refine st_quiet (v := ?_) ?_ ?_
                    rotate_left
                    · go_simp
                      rfl
                    exact hK _ _ _ rfl rfl (Ext.refl _)
                  · intro vals W' e hd ho K hK
                    have h7 : vals 7 = .int .i64 r.c := hd 7 (by kernel_rfl)
                    have hx : World.grownBy _ W' ro := e
                    go_wp2_with fail
                    refine (picked_any r.c 256 _ HI.out.2.2.2 (by omega) (by omega)).mono ?_
                    rintro e' u' ⟨rfl, rfl⟩
                    exact hK _ _ _ (by first | rfl | (simp only [h7]; rfl)) rfl (Ext.refl _)
                  · intro vals W' e hd ho K hK
                    have h1 : vals 1 = .int .i64 (d : Int) := hd 1 (by kernel_rfl)
                    have h2 : vals 2 = .int .i64 (n : Int) := hd 2 (by kernel_rfl)
                    have h5 : vals 5 = .int .i64 (pick r.b 30) := hd 5 (by kernel_rfl)
                    have h8 : vals 8 = .int .i64 (pick r.c 256) := hd 8 (by kernel_rfl)
                    have hx : World.grownBy _ W' ro := e
                    refine st_quiet (v := ?_) ?_ ?_
                    rotate_left
                    · go_simp
                      rfl
                    exact hK _ _ _ rfl (by first | exact rfl | exact congrArg (Value.int _) (by first | (rw [IntKind.wrap_i64]; omega) | (rw [IntKind.wrap_u8]; omega) | omega)) (Ext.refl _)
                  · intro vals W' e hd ho K hK
                    have h9 : vals 9 = .agg #[.int .i64 5, .slice none 0 0, .string .empty, .int .i64 (d : Int), .int .i64 (n : Int), .int .i64 (pick r.b 30), .int .i64 (pick r.c 256)] := hd 9 (by kernel_rfl)
                    have hx : World.grownBy _ W' ro := e
                    go_wp2_with fail
                    exact hK _ _ _ (by first | rfl | (simp only [h9]; rfl)) ⟨W'.heap.size, rfl, Blk_.new _ _ _, by have := hx.size; have := HN0.out; simp only [size_drew_] at *; omega⟩ ((Ext.refl W').alloc _)
                  · intro vals W' e hd ho K hK
                    have h0 : vals 0 = .slice A L.length c := hd 0 (by kernel_rfl)
                    obtain ⟨g10, h10, b10, n10⟩ := hd 10 (by kernel_rfl)
                    have hx : Ext _ W' := e
                    refine wp_append_at W' (.tmp 62) (.tmp 72) 23 rfl (w.heap.size + 1) 39 i1 (.agg #[.int .i64 0, .slice none 0 0, .string .empty, .int .i64 0, .int .i64 0, .int .i64 0, .int .i64 0]) 7 80 Tryz.underlying23 HIE.out.1 HIE.out.2.1 HIE.out.2.2.1 HIE.out.2.2.2 rfl (by decide) (.slice A L.length c) L.length _ h0 (own_ext HOWN.out ((Ext.refl _).drew.trans hx)) ⟨g10, 0, none⟩ 1 1 [.int .i64 5, .slice none 0 0, .string .empty, .int .i64 (d : Int), .int .i64 (n : Int), .int .i64 (pick r.b 30), .int .i64 (pick r.c 256)] h10 rfl ?_ ?_ ?_ ?_ ?_ ?_
                    · intro j u hu
                      rw [Addr.add_lit, Nat.zero_add, b10.cell]
                      simpa using hu
                    · intro u hu
                      simp only [List.mem_cons, List.not_mem_nil, or_false] at hu
                      rcases hu with rfl | rfl | rfl | rfl | rfl | rfl | rfl <;> rfl
                    · have := HLL.out; unfold maxLen; omega
                    · have := HLL.out; omega
                    · have := hx.below.size
                      have h5 := HX.out.size
                      have h6 := HB12.out.lt
                      have h7 := HG12.out
                      have := HBM.out
                      simp only [size_drew_] at *
                      omega
                    intro A' c' u' own hg _
                    exact hK _ _ _ rfl ⟨A', c', rfl, own⟩ (by rw [← HRO.out] at hg; exact hg)
                intro vals W' e hall K hK
                obtain ⟨A', c', h11, own3⟩ := hall 11 (by decide)
                rw [HRO.out] at e
                have HOWN3 := Lib.hid own3
                have HMK3 := Lib.hid ((HMK.out.grown ((Ext.refl W).drew.by_ none) (by simp)).grown e (by intro e'; have := HRB.out _ (HRO.out.trans e'.symm); have := HBM.out; omega))
                have HX3 := Lib.hid ((HX.out.drew).grown e (fun q hq => by have := HRB.out q (HRO.out.trans hq); omega))
                clear hall e own3
                go_wp2_with fail
                go_roundw
                case rel =>
                  have hll := HLL.out
                  have p1 := pick_range r.b 30 (by decide)
                  have p2 := pick_range r.c 256 (by decide)
                  refine ⟨i + 1, A', c', L ++ [(⟨5, d, (n : Int), pick r.b 30, pick r.c 256⟩ : HA)], by rw [List.length_append]; exact h11, by first | rfl | go_num, by omega, by omega, by rw [List.length_append]; show L.length + 1 ≤ i + 1; omega, HX3.out, ?_, ?_, ?_, ?_⟩
                  · rw [List.length_append, List.flatMap_append]
                    exact HOWN3.out
                  · rw [turned_snoc, if_pos rfl]
                    exact HMK3.out.congr (fun x => by simp [Bool.or_comm])
                  · intro y hy
                    rcases List.mem_append.1 hy with hy | hy
                    · exact HOK.out.1 y hy
                    · obtain rfl := List.mem_singleton.1 hy
                      have := HNN.out
                      exact ⟨rfl, Or.inr (Or.inl rfl), by dsimp only; omega, by dsimp only; omega, by dsimp only; omega, by dsimp only; omega, by dsimp only; omega, by dsimp only; omega⟩
                  · rw [turned_snoc, if_pos rfl]
                    refine List.nodup_append.2 ⟨HOK.out.2, by simp, fun x hx y hy e => ?_⟩
                    obtain rfl := List.mem_singleton.1 hy
                    subst e
                    have := HTT.out
                    rw [List.contains_iff_mem.2 hx] at this
                    cases this
                case measure => have := HLL.out; (simp [intOf]; try omega)
            · obtain rfl : kk = 11 := by omega
              clear hA hB hkr
              go_wp2_with (at_builtin; refine wpList_append_at _ rfl (.tmp 77) (.tmp 80) 23 rfl (w.heap.size + 1) 39 i1 (.agg #[.int .i64 0, .slice none 0 0, .string .empty, .int .i64 0, .int .i64 0, .int .i64 0, .int .i64 0]) 7 80 Tryz.underlying23 HIE.out.1 HIE.out.2.1 HIE.out.2.2.1 HIE.out.2.2.2 rfl (by decide) (.slice A L.length c) L.length _ rfl (own_ext HOWN.out ((Ext.refl _).alloc _)) ⟨w2.heap.size, 0, none⟩ 1 1 [.int .i64 6, .slice none 0 0, .string ⟨#[]⟩, .int .i64 (d : Int), .int .i64 0, .int .i64 0, .int .i64 0] rfl rfl ?c1 ?c2 ?c3 ?c4 ?c5 ?_)
              case c1 =>
                intro j u hu
                rw [Addr.add_lit, Nat.zero_add, (Blk_.new w2 39 _).cell]
                simpa using hu
              case c2 =>
                intro u hu
                simp only [List.mem_cons, List.not_mem_nil, or_false] at hu
                rcases hu with rfl | rfl | rfl | rfl | rfl | rfl | rfl <;> rfl
              case c3 => have := HLL.out; unfold maxLen; omega
              case c4 => have := HLL.out; omega
              case c5 => have := HX.out.size; have := HBM.out; rw [World.size_alloc]; omega
              intro A' c' w3 own3 hg3 _
              have HOWN3 := Lib.hid own3
              have HMK3 := Lib.hid ((HMK.out.grown (((Ext.refl w2).alloc _).by_ none) (by simp)).grown hg3 (by intro e; have := (HOWN.out.lt _ e.symm).1; have := HBM.out; omega))
              have HX3 := Lib.hid ((HX.out.alloc _).grown hg3 (fun q hq => by have := (HOWN.out.lt _ hq).1; omega))
              clear own3 hg3
              go_wp2_with fail
              go_roundw
              case rel =>
                have hll := HLL.out
                refine ⟨i + 1, A', c', L ++ [(⟨6, d, 0, 0, 0⟩ : HA)], by rw [List.length_append]; rfl, by first | rfl | go_num, by omega, by omega, by rw [List.length_append]; show L.length + 1 ≤ i + 1; omega, HX3.out, ?_, ?_, ?_, ?_⟩
                · rw [List.length_append, List.flatMap_append]
                  exact HOWN3.out
                · rw [turned_snoc, if_neg (by show ¬ (6 : Int) = 5; decide), List.append_nil]
                  exact HMK3.out.mono (by omega)
                · intro y hy
                  rcases List.mem_append.1 hy with hy | hy
                  · exact HOK.out.1 y hy
                  · obtain rfl := List.mem_singleton.1 hy
                    have := HNN.out
                    exact ⟨rfl, by first | exact Or.inl rfl | exact Or.inr (Or.inr rfl), by dsimp only; omega, by dsimp only; omega, by dsimp only; omega, by dsimp only; omega, by dsimp only; omega, by dsimp only; omega⟩
                · rw [turned_snoc, if_neg (by show ¬ (6 : Int) = 5; decide), List.append_nil]
                  exact HOK.out.2
              case measure => have := HLL.out; (simp [intOf]; try omega)
        · have hltI : (i : Int) < (l.length : Int) := by omega
          have h9I : (most : Int) ≤ (i : Int) := by omega
          have HLN := Lib.hid (show L.length ≤ 1000 by have := HMO.out; omega)
          clear hlt h30 hil him hLi
          go_wp2_with fail
          go_ret
          exact ⟨A, c, L, rfl, HX.out, HOWN.out, HOK.out.1, HOK.out.2, HLN.out⟩
      · have hltI : (l.length : Int) ≤ (i : Int) := by omega
        have HLN := Lib.hid (show L.length ≤ 1000 by have := HMO.out; omega)
        clear hlt hil him hLi
        go_wp2_with fail
        go_ret
        exact ⟨A, c, L, rfl, HX.out, HOWN.out, HOK.out.1, HOK.out.2, HLN.out⟩
end Go.Proofs.YtgjijcgkmofaaaaGreatDoor
