/-
  CONTRACTS: DrawApplyAtom, DrawApplyAtoms.
-/
import Derived.Test.YtfakaeddkhajbaaDrawStates
namespace Go.Proofs.Ytfakaeddkhajbaa
open Go.RowKit

theorem Read.below2 {v : Value} {m g B : Nat} {w a b : World} (h : Read v m g B a b) (hw : Below w.heap.size w a) (hg : w.heap.size ≤ g) : Below w.heap.size w b := hw.trans (h.below w.heap.size hg hw.size)
theorem Atm.set {w : World} {b : Nat} {a0 : Int} {x0 : ByteArray} (h : Atm w b a0 x0) (a : Int) (x : ByteArray) :
    Atm ((w.setCell ⟨b, 0, none⟩ (.int .i64 a)).setCell ⟨b, 1, none⟩ (.string x)) b a x ∧ w.grownBy ((w.setCell ⟨b, 0, none⟩ (.int .i64 a)).setCell ⟨b, 1, none⟩ (.string x)) (some b) := by
  obtain ⟨c0, c1⟩ := h
  refine ⟨⟨?_, ?_⟩, ?_⟩
  · simp [go_sem, *]
  · simp [go_sem, *]
  · exact grown_then (grown_set _ _ _ _) _ _

/-- a state and an atom, made in new memory -/
def MadeTA (w : World) (e : Ending) (w' : World) : Prop :=
  ∃ (t : ByteArray) (j l : Bool) (c k : Int) (a : Int) (x : ByteArray), e = .returned (.tuple #[.agg #[.string t, .bool j, .bool l, .int .i64 c, .int .i64 k], .agg #[.int .i64 a, .string x]]) ∧ t.size ≤ 2010 ∧ x.size ≤ 24 ∧ Below w.heap.size w w'

set_option maxRecDepth 20000 in
set_option maxHeartbeats 1600000 in
theorem DrawApplyAtom_any (v : Value) (w : World) (h : Code8 w v) : Calls Try.prog 64 #[v] w (MadeTA w) := by
  obtain ⟨l, h1, h2⟩ := (h.alloc (.cells #[.string ⟨#[]⟩, .bool false, .bool false, .int .i64 0, .int .i64 0] 59)).alloc (.cells #[.int .i64 0, .string ⟨#[]⟩] 63)
  clear h
  have h3 := h2
  obtain ⟨a, cap, rfl, _, _, _, _, _⟩ := h3
  have HC := Lib.hid (Cur.newAt (size2 w (.cells #[.string ⟨#[]⟩, .bool false, .bool false, .int .i64 0, .int .i64 0] 59) (.cells #[.int .i64 0, .string ⟨#[]⟩] 63)) rfl h1 h2 92)
  have K := Lib.hid ((laid2 w ⟨#[]⟩ false false 0 0 0 ⟨#[]⟩ 59 63).alloc (.cells #[.slice a l.length cap, .int .i64 0, .int .u64 0] 92))
  have T := Lib.hid (show thawed (((w.alloc (.cells #[.string ⟨#[]⟩, .bool false, .bool false, .int .i64 0, .int .i64 0] 59)).alloc (.cells #[.int .i64 0, .string ⟨#[]⟩] 63)).alloc (.cells #[.slice a l.length cap, .int .i64 0, .int .u64 0] 92)) (w.heap.size + 1) from fun i => by simp [go_sem])
  have B0 := Lib.hid (laid3_below w (.cells #[.string ⟨#[]⟩, .bool false, .bool false, .int .i64 0, .int .i64 0] 59) (.cells #[.int .i64 0, .string ⟨#[]⟩] 63) (.cells #[.slice a l.length cap, .int .i64 0, .int .u64 0] 92))
  clear h1 h2
  go_enter Try.func64, Try.ntmps64
  go_upto_region 3 with (go_at_call 106; refine (state_any (Read.refl HC.out) (by omega)).mono ?_; rintro e w1 ⟨⟨t, sj, sg, sc, sk, rfl, ht, hb⟩, hd⟩; have K1 := Lib.hid (show Two w1 w.heap.size _ _ _ from ⟨K.out.1.read hd (by omega), Atm.newK hd (by omega) K.out.2⟩); have T1 := Lib.hid (hd.thaw (by omega) (by rw [boxed2]; omega) T.out); have B1 := Lib.hid (hd.below2 B0.out (by omega)); have C1 := Lib.hid hd.1; have z1 := hd.2.size; rw [boxed2] at z1; clear hb hd K T B0 HC)
  have C2 := Lib.hid (C1.out.alloc (.cells #[.string t, .bool sj, .bool sg, .int .i64 sc, .int .i64 sk] 59))
  have S2 := Lib.hid (St.new w1 t sj sg sc sk 59)
  have K2 := Lib.hid (K1.out.alloc (.cells #[.string t, .bool sj, .bool sg, .int .i64 sc, .int .i64 sk] 59))
  have T2 := Lib.hid (thaw_alloc T1.out (by omega) (.cells #[.string t, .bool sj, .bool sg, .int .i64 sc, .int .i64 sk] 59))
  have B2 := Lib.hid (B1.out.alloc B1.out.size (.cells #[.string t, .bool sj, .bool sg, .int .i64 sc, .int .i64 sk] 59))
  have zz : (w1.alloc (.cells #[.string t, .bool sj, .bool sg, .int .i64 sc, .int .i64 sk] 59)).heap.size = w1.heap.size + 1 := size1 _ _
  clear C1 K1 T1 B1
  go_region_law (first | (go_simp; go_at_call 108; refine (anyAtom_any (Read.refl C2.out.drew) (by omega)).mono ?_; rintro e w2 ⟨⟨pa, px, rfl, hp⟩, hd⟩; have hp3 := hp.2.2; have S3 := Lib.hid (S2.out.drew.read hd (by omega)); have Z3 := Lib.hid (K2.out.1.drew.read hd (by omega)); have A3 := Lib.hid (Atm.newK hd (by omega) (show Atm _ (w.heap.size + 1) 0 ⟨#[]⟩ from K2.out.2)); have T3 := Lib.hid (hd.thaw (by omega) (by rw [size_drew, zz]; omega) (show thawed _ (w.heap.size + 1) from T2.out)); have B3 := Lib.hid (hd.below2 (below_drew1 B2.out) (by omega)); have z3 := Z3.out.lt; clear hd hp; obtain ⟨s0, s1, s2, s3, s4, _⟩ := S3.out; obtain ⟨n0, n1, n2, n3, n4, nf⟩ := Z3.out; obtain ⟨m0, m1⟩ := A3.out; have mf := T3.out; dsimp only at s0 s1 s2 s3 s4 n0 n1 n2 n3 n4; unfold thawed at nf mf))
  all_goals go_wp2
  all_goals
    have hB := B3.out
    refine bodyPost_ret (v := .tuple #[.agg #[.string t, .bool sj, .bool sg, .int .i64 sc, .int .i64 sk], .agg #[.int .i64 pa, .string px]]) (by simp [results, Try.results64, go_sem, *]) rfl ⟨_, _, _, _, _, _, _, rfl, ht, hp3, (by repeat (first | with_reducible exact Below.refl _ _ | with_reducible assumption | with_reducible refine Below.alloc ?_ ?_ _ | with_reducible refine Below.setCell ?_ ?_ _ | with_reducible refine Below.drew ?_ | with_reducible refine below_drewN ?_ _ | with_reducible refine Below.trans ?_ (Below.mono (by assumption) ?_) | omega | ((repeat (first | rw [World.size_alloc] | rw [size_setCell] | rw [size_drewN] | rw [size_drew])); omega) | exact Nat.le_refl _ | (dsimp only; omega) | (simp [World.setCell]; omega)))⟩

/-- a state and a list of atoms, made in new memory -/
def MadeTL (w : World) (e : Ending) (w' : World) : Prop :=
  ∃ (t : ByteArray) (j l : Bool) (c k : Int) (lv : Value) (la : List (Int × ByteArray)), e = .returned (.tuple #[.agg #[.string t, .bool j, .bool l, .int .i64 c, .int .i64 k], lv]) ∧ t.size ≤ 2010 ∧ w'.ownsRow w.heap.size 63 2 lv la.length (folds la) ∧ la.length ≤ 700 ∧ (∀ p ∈ la, p.2.size ≤ 24) ∧ Below w.heap.size w w'

theorem St.grownR {w w' : World} {B : Nat} {r : Option Nat} {s : Pl.Sta} (h : St w B s) (hg : w.grownBy w' r) (hne : r ≠ some B) : St w' B s := by
  have hl := h.lt
  obtain ⟨c0, c1, c2, c3, c4, hf⟩ := h
  have e := hg.block B hl (fun h => hne h.symm)
  have hc : ∀ i, w'.cell? ⟨B, i, none⟩ = w.cell? ⟨B, i, none⟩ := fun i => by unfold World.cell?; simp only [e]
  have hz : ∀ i, w'.frozen? ⟨B, i, none⟩ = w.frozen? ⟨B, i, none⟩ := fun i => by unfold World.frozen?; simp only [e]
  exact ⟨by rw [hc]; exact c0, by rw [hc]; exact c1, by rw [hc]; exact c2, by rw [hc]; exact c3, by rw [hc]; exact c4, fun i => by rw [hz]; exact hf i⟩
theorem below_grownR {w X Y : World} {r : Option Nat} (h : Below w.heap.size w X) (hg : X.grownBy Y r) (hr : ∀ k, r = some k → w.heap.size ≤ k) : Below w.heap.size w Y := h.grown hg h.size hr
def Small24 (la : List (Int × ByteArray)) : Prop := ∀ p ∈ la, p.2.size ≤ 24
theorem Small24.snoc {la : List (Int × ByteArray)} {p : Int × ByteArray} (h : Small24 la) (hp : p.2.size ≤ 24) : Small24 (la ++ [p]) := by
  intro q hq
  rcases List.mem_append.1 hq with hq | hq
  · exact h q hq
  · rw [List.mem_singleton.1 hq]; exact hp
theorem own_grown {w w' : World} {base : Nat} {e : TypeId} {size : Nat} {v : Value} {n : Nat} {xs : List Value} {b : Nat} (h : w.ownsRow base e size v n xs) (hg : w.grownBy w' (some b)) (hb : b < base) : w'.ownsRow base e size v n xs := by
  refine h.kept hg ?_
  cases hv : v.ownBlock with
  | none => exact .inl rfl
  | some k => exact .inr (fun e => by have := (h.lt k hv).1; injection e with e; omega)

set_option maxRecDepth 20000 in
set_option maxHeartbeats 1600000 in
theorem DrawApplyAtoms_any (v : Value) (w : World) (h : Code8 w v) : Calls Try.prog 61 #[v] w (MadeTL w) := by
  obtain ⟨l, h1, h2⟩ := h.alloc (.cells #[.string ⟨#[]⟩, .bool false, .bool false, .int .i64 0, .int .i64 0] 59)
  clear h
  have h3 := h2
  obtain ⟨a, cap, rfl, _, _, _, _, _⟩ := h3
  have HC := Lib.hid (Cur.newAt (World.size_alloc w (.cells #[.string ⟨#[]⟩, .bool false, .bool false, .int .i64 0, .int .i64 0] 59)) rfl h1 h2 92)
  have Z0 := Lib.hid ((St.new w ⟨#[]⟩ false false 0 0 59).alloc (.cells #[.slice a l.length cap, .int .i64 0, .int .u64 0] 92))
  have B0 := Lib.hid (laid2_below w (.cells #[.string ⟨#[]⟩, .bool false, .bool false, .int .i64 0, .int .i64 0] 59) (.cells #[.slice a l.length cap, .int .i64 0, .int .u64 0] 92))
  clear h1 h2
  go_enter Try.func61, Try.ntmps61
  go_upto_region 3 with (go_at_call 106; refine (state_any (Read.refl HC.out) (by omega)).mono ?_; rintro e w1 ⟨⟨t, sj, sg, sc, sk, rfl, ht, hb⟩, hd⟩; have Z1 := Lib.hid (Z0.out.read hd (by omega)); have B1 := Lib.hid (hd.below2 B0.out (by omega)); have C1 := Lib.hid hd.1; have R1 := Lib.hid hd; have z1 := hd.2.size; rw [size2] at z1; clear hb hd Z0 B0)
  have S2 := Lib.hid (St.new w1 t sj sg sc sk 59)
  have Z2 := Lib.hid (Z1.out.alloc (.cells #[.string t, .bool sj, .bool sg, .int .i64 sc, .int .i64 sk] 59))
  have C2 := Lib.hid (C1.out.alloc (.cells #[.string t, .bool sj, .bool sg, .int .i64 sc, .int .i64 sk] 59))
  have B2 := Lib.hid (B1.out.alloc B1.out.size (.cells #[.string t, .bool sj, .bool sg, .int .i64 sc, .int .i64 sk] 59))
  have R2 := Lib.hid (R1.out.alloc (.cells #[.string t, .bool sj, .bool sg, .int .i64 sc, .int .i64 sk] 59))
  clear Z1 C1 B1 R1
  go_upto_region 4 with (go_at_call 107; refine (sequence_any 6 (by decide) (Read.refl C2.out) (by omega)).mono ?_; rintro e w3 ⟨⟨lv, la, rfl, hown, hl, hk⟩, hd⟩; have O3 := Lib.hid (own_base (base' := w1.heap.size + 1) hown (by rw [World.size_alloc]; omega)); have S3 := Lib.hid (S2.out.read hd (by omega)); have Z3 := Lib.hid (Z2.out.read hd (by omega)); have B3 := Lib.hid (hd.below2 B2.out (by omega)); have C3 := Lib.hid hd.1; have R3 := Lib.hid (R2.out.trans hd); have z3 := hd.2.size; rw [World.size_alloc] at z3; have K3 := Lib.hid (fun p hp => Nat.le_trans (Pl.atomOk_prt (hk p hp)).2 (by omega) : Small24 la); clear hown hd hk S2 Z2 C2 B2)
  go_wp2_with (go_at_call 84; refine (one_any 16 (Read.refl C3.out) (by omega) (by decide) (by decide)).mono ?_; rintro e w4 ⟨⟨ba, rfl⟩, hd⟩; have O4 := Lib.hid (own_read O3.out hd (by omega)); have S4 := Lib.hid (S3.out.read hd (by omega)); have Z4 := Lib.hid (Z3.out.read hd (by omega)); have B4 := Lib.hid (hd.below2 B3.out (by omega)); have C4 := Lib.hid hd.1; have R4 := Lib.hid (R3.out.trans hd); have z4 := hd.2.size; clear hd O3 S3 Z3 B3 C3; cases ba)
  · have O := O4; have S := S4; have Z := Z4; have B := B4; have C := C4; have KP := K3
    clear O4 S4 Z4 B4 C4 K3
    go_wp2_with (first
      | (go_at_call 109; refine (pick_any 2 (Read.refl (C5.out.alloc _)) (by omega) (by decide) (by decide)).mono ?_; rintro e w6 ⟨⟨rb, rfl, hrb⟩, hd⟩; have O6 := Lib.hid (own_read (World.ownsRow_made (base := w1.heap.size + 1) (e := 63) (size := 2) w5 #[] 0 (by omega) (by unfold maxLen; omega) rfl) hd (by omega)); have S6 := Lib.hid ((S5.out.alloc (.cells #[] 63)).read hd (by omega)); have Z6 := Lib.hid ((Z5.out.alloc (.cells #[] 63)).read hd (by omega)); have B6 := Lib.hid (hd.below2 (B5.out.alloc B5.out.size _) (by omega)); clear hd S5 Z5 B5 C5 O5 s0 s1 s2 s3 s4 n0 n1 n2 n3 n4 nf)
      | (go_at_call 84; refine (one_any 40 (Read.refl C.out) (by omega) (by decide) (by decide)).mono ?_; rintro e w5 ⟨⟨ba, rfl⟩, hd⟩; have O5 := Lib.hid (own_read O.out hd (by omega)); have S5 := Lib.hid (S.out.read hd (by omega)); have Z5 := Lib.hid (Z.out.read hd (by omega)); have B5 := Lib.hid (hd.below2 B.out (by omega)); have C5 := Lib.hid hd.1; have z5 := hd.2.size; clear hd O S Z B C; obtain ⟨s0, s1, s2, s3, s4, _⟩ := S5.out; obtain ⟨n0, n1, n2, n3, n4, nf⟩ := Z5.out; dsimp only at s0 s1 s2 s3 s4 n0 n1 n2 n3 n4; unfold thawed at nf; have lz := Z5.out.lt; cases ba))
    · have hgz := (Z5.out.set ⟨t, sj, sg, sc, sk⟩).2
      refine bodyPost_ret (v := .tuple #[.agg #[.string t, .bool sj, .bool sg, .int .i64 sc, .int .i64 sk], lv]) (by simp [results, Try.results61, go_sem, *]) rfl ⟨_, _, _, _, _, _, la, rfl, ht, ?_, by omega, KP.out, below_into B5.out hgz (Nat.le_refl _)⟩
      exact own_base (own_grown O5.out hgz (by omega)) (by omega)
    · go_loopw [6, 7] (fun lv n wr => ∃ (lb : List (Int × ByteArray)) (k : Nat), n = .int .i64 k ∧ lb.length + k ≤ 601 ∧ wr.ownsRow (w1.heap.size + 1) 63 2 lv lb.length (folds lb) ∧ Hid (Small24 lb) ∧ St wr w1.heap.size ⟨t, sj, sg, sc, sk⟩ ∧ St wr w.heap.size ⟨⟨#[]⟩, false, false, 0, 0⟩ ∧ Below w.heap.size w wr) (fun _ n _ => (intOf n).toNat)
      case atStart => exact ⟨[], 600 + rb, by go_num, by simp; omega, O6.out, Lib.hid (by intro p hp; cases hp), S6.out, Z6.out, B6.out⟩
      clear S6 Z6 B6 O6
      case round =>
        obtain ⟨lb, n, rfl, hn, hown, HK, hs, hz, hb⟩ := hrel
        have O := Lib.hid hown; have S := Lib.hid hs; have Z := Lib.hid hz; have B := Lib.hid hb
        clear hown hs hz hb
        have lz := Z.out.lt
        by_cases h0 : 0 < n
        · go_wp2_with (at_builtin; have HO2 := O; refine app_atom rfl _ _ rfl (w1.heap.size + 1) _ lb.length (folds lb) rfl (O.out.alloc _) ⟨_, 0, none⟩ 1 8 ⟨#[]⟩ rfl (atom_news _ 8 ⟨#[]⟩ _) (by omega) (by have := S.out.lt; rw [World.size_alloc]; omega) ?_; intro v2 w2' hown2 hg2)
          go_roundw
          case rel =>
            have O2 := hown2
            have hpb : ∀ k, Value.ownBlock u6 = some k → w1.heap.size + 1 ≤ k := fun k hk => (O.out.lt k hk).1
            refine ⟨lb ++ [(8, ⟨#[]⟩)], n - 1, by go_num, by simp; omega, by rw [List.length_append, folds_snoc]; exact O2, Lib.hid (HK.out.snoc (by decide)), ?_, ?_, ?_⟩
            · exact (S.out.alloc (.cells #[.int .i64 8, .string ⟨#[]⟩] 63)).grownR hg2 (fun e => by have := hpb _ e; omega)
            · exact (Z.out.alloc (.cells #[.int .i64 8, .string ⟨#[]⟩] 63)).grownR hg2 (fun e => by have := hpb _ e; omega)
            · exact below_grownR (B.out.alloc B.out.size (.cells #[.int .i64 8, .string ⟨#[]⟩] 63)) hg2 (fun k hk => by have := hpb _ hk; omega)
          case measure => simp [intOf]; omega
        · obtain ⟨s0, s1, s2, s3, s4, _⟩ := S.out
          obtain ⟨n0, n1, n2, n3, n4, nf⟩ := Z.out
          dsimp only at s0 s1 s2 s3 s4 n0 n1 n2 n3 n4
          unfold thawed at nf
          have hgz := (Z.out.set ⟨t, sj, sg, sc, sk⟩).2
          go_wp2
          refine bodyPost_ret (v := .tuple #[.agg #[.string t, .bool sj, .bool sg, .int .i64 sc, .int .i64 sk], u6]) (by simp [results, Try.results61, go_sem, *]) rfl ⟨_, _, _, _, _, _, lb, rfl, ht, ?_, by omega, HK.out, below_into B.out hgz (Nat.le_refl _)⟩
          exact own_base (own_grown O.out hgz (by omega)) (by omega)
  · go_wp2_with (first
      | (at_builtin; have HO2 := O5; refine app_atom rfl _ _ rfl (w1.heap.size + 1) _ la.length (folds la) rfl (O5.out.alloc _) ⟨_, 0, none⟩ 1 pa px rfl (atom_news _ pa px _) (by omega) (by have := B5.out.size; rw [World.size_alloc]; omega) ?_; intro v2 w6 hown2 hg2)
      | (go_at_call 108; refine (anyAtom_any (Read.refl C4.out) (by omega)).mono ?_; rintro e w5 ⟨⟨pa, px, rfl, hp⟩, hd⟩; have hp3 := hp.2.2; have O5 := Lib.hid (own_read O4.out hd (by omega)); have S5 := Lib.hid (S4.out.read hd (by omega)); have Z5 := Lib.hid (Z4.out.read hd (by omega)); have B5 := Lib.hid (hd.below2 B4.out (by omega)); have R5 := Lib.hid (R4.out.trans hd); have z5 := hd.2.size; clear hd hp O4 S4 Z4 B4 C4))
    have hpb : ∀ k, Value.ownBlock lv = some k → w1.heap.size + 1 ≤ k := fun k hk => (O5.out.lt k hk).1
    have S := Lib.hid ((S5.out.alloc (.cells #[.int .i64 pa, .string px] 63)).grownR hg2 (fun e => by have := hpb _ e; omega))
    have Z := Lib.hid ((Z5.out.alloc (.cells #[.int .i64 pa, .string px] 63)).grownR hg2 (fun e => by have := hpb _ e; omega))
    have B := Lib.hid (below_grownR (B5.out.alloc B5.out.size (.cells #[.int .i64 pa, .string px] 63)) hg2 (fun k hk => by have := hpb _ hk; omega))
    have C := Lib.hid ((R5.out.alloc (.cells #[.int .i64 pa, .string px] 63)).grownNew HC.out hg2 (fun k hk => by have := hpb _ hk; rw [size2]; omega)).1
    have hown3 : w6.ownsRow (w1.heap.size + 1) 63 2 v2 (la ++ [(pa, px)]).length (folds (la ++ [(pa, px)])) := by rw [List.length_append, folds_snoc]; exact hown2
    have O := Lib.hid hown3
    have KP := Lib.hid (Small24.snoc (p := (pa, px)) K3.out hp3)
    have hl7 : (la ++ [(pa, px)]).length ≤ 7 := by rw [List.length_append]; simp; omega
    have z6 : w5.heap.size ≤ w6.heap.size := by have := hg2.size; rw [World.size_alloc] at this; omega
    generalize la ++ [(pa, px)] = lc at O KP hl7
    clear O5 S5 Z5 B5 R5 hown2 hown3 hg2 hpb K3 HC R4 R3 R2
    go_wp2_with (first
      | (go_at_call 109; refine (pick_any 2 (Read.refl (C5.out.alloc _)) (by omega) (by decide) (by decide)).mono ?_; rintro e w6 ⟨⟨rb, rfl, hrb⟩, hd⟩; have O6 := Lib.hid (own_read (World.ownsRow_made (base := w1.heap.size + 1) (e := 63) (size := 2) w5 #[] 0 (by omega) (by unfold maxLen; omega) rfl) hd (by omega)); have S6 := Lib.hid ((S5.out.alloc (.cells #[] 63)).read hd (by omega)); have Z6 := Lib.hid ((Z5.out.alloc (.cells #[] 63)).read hd (by omega)); have B6 := Lib.hid (hd.below2 (B5.out.alloc B5.out.size _) (by omega)); clear hd S5 Z5 B5 C5 O5 s0 s1 s2 s3 s4 n0 n1 n2 n3 n4 nf)
      | (go_at_call 84; refine (one_any 40 (Read.refl C.out) (by omega) (by decide) (by decide)).mono ?_; rintro e w5 ⟨⟨ba, rfl⟩, hd⟩; have O5 := Lib.hid (own_read O.out hd (by omega)); have S5 := Lib.hid (S.out.read hd (by omega)); have Z5 := Lib.hid (Z.out.read hd (by omega)); have B5 := Lib.hid (hd.below2 B.out (by omega)); have C5 := Lib.hid hd.1; have z5 := hd.2.size; clear hd O S Z B C; obtain ⟨s0, s1, s2, s3, s4, _⟩ := S5.out; obtain ⟨n0, n1, n2, n3, n4, nf⟩ := Z5.out; dsimp only at s0 s1 s2 s3 s4 n0 n1 n2 n3 n4; unfold thawed at nf; have lz := Z5.out.lt; cases ba))
    · have hgz := (Z5.out.set ⟨t, sj, sg, sc, sk⟩).2
      refine bodyPost_ret (v := .tuple #[.agg #[.string t, .bool sj, .bool sg, .int .i64 sc, .int .i64 sk], v2]) (by simp [results, Try.results61, go_sem, *]) rfl ⟨_, _, _, _, _, _, lc, rfl, ht, ?_, by omega, KP.out, below_into B5.out hgz (Nat.le_refl _)⟩
      exact own_base (own_grown O5.out hgz (by omega)) (by omega)
    · go_loopw [6, 7] (fun lv n wr => ∃ (lb : List (Int × ByteArray)) (k : Nat), n = .int .i64 k ∧ lb.length + k ≤ 601 ∧ wr.ownsRow (w1.heap.size + 1) 63 2 lv lb.length (folds lb) ∧ Hid (Small24 lb) ∧ St wr w1.heap.size ⟨t, sj, sg, sc, sk⟩ ∧ St wr w.heap.size ⟨⟨#[]⟩, false, false, 0, 0⟩ ∧ Below w.heap.size w wr) (fun _ n _ => (intOf n).toNat)
      case atStart => exact ⟨[], 600 + rb, by go_num, by simp; omega, O6.out, Lib.hid (by intro p hp; cases hp), S6.out, Z6.out, B6.out⟩
      clear S6 Z6 B6 O6
      case round =>
        obtain ⟨lb, n, rfl, hn, hown, HK, hs, hz, hb⟩ := hrel
        have O := Lib.hid hown; have S := Lib.hid hs; have Z := Lib.hid hz; have B := Lib.hid hb
        clear hown hs hz hb
        have lz := Z.out.lt
        by_cases h0 : 0 < n
        · go_wp2_with (at_builtin; have HO2 := O; refine app_atom rfl _ _ rfl (w1.heap.size + 1) _ lb.length (folds lb) rfl (O.out.alloc _) ⟨_, 0, none⟩ 1 8 ⟨#[]⟩ rfl (atom_news _ 8 ⟨#[]⟩ _) (by omega) (by have := S.out.lt; rw [World.size_alloc]; omega) ?_; intro v2 w2' hown2 hg2)
          go_roundw
          case rel =>
            have O2 := hown2
            have hpb : ∀ k, Value.ownBlock u6 = some k → w1.heap.size + 1 ≤ k := fun k hk => (O.out.lt k hk).1
            refine ⟨lb ++ [(8, ⟨#[]⟩)], n - 1, by go_num, by simp; omega, by rw [List.length_append, folds_snoc]; exact O2, Lib.hid (HK.out.snoc (by decide)), ?_, ?_, ?_⟩
            · exact (S.out.alloc (.cells #[.int .i64 8, .string ⟨#[]⟩] 63)).grownR hg2 (fun e => by have := hpb _ e; omega)
            · exact (Z.out.alloc (.cells #[.int .i64 8, .string ⟨#[]⟩] 63)).grownR hg2 (fun e => by have := hpb _ e; omega)
            · exact below_grownR (B.out.alloc B.out.size (.cells #[.int .i64 8, .string ⟨#[]⟩] 63)) hg2 (fun k hk => by have := hpb _ hk; omega)
          case measure => simp [intOf]; omega
        · obtain ⟨s0, s1, s2, s3, s4, _⟩ := S.out
          obtain ⟨n0, n1, n2, n3, n4, nf⟩ := Z.out
          dsimp only at s0 s1 s2 s3 s4 n0 n1 n2 n3 n4
          unfold thawed at nf
          have hgz := (Z.out.set ⟨t, sj, sg, sc, sk⟩).2
          go_wp2
          refine bodyPost_ret (v := .tuple #[.agg #[.string t, .bool sj, .bool sg, .int .i64 sc, .int .i64 sk], u6]) (by simp [results, Try.results61, go_sem, *]) rfl ⟨_, _, _, _, _, _, lb, rfl, ht, ?_, by omega, HK.out, below_into B.out hgz (Nat.le_refl _)⟩
          exact own_base (own_grown O.out hgz (by omega)) (by omega)

end Go.Proofs.Ytfakaeddkhajbaa
