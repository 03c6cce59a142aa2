/-
  CONTRACTS: ParseEdit of the program and the reference.
-/
import Derived.Test.YtkbbcmbeafjpaabDoorPedE
namespace Go.Proofs.YtkbbcmbeafjpaabDoor
open Go.RowKit

theorem below_n5 {w X Y : World} (h : Below w.heap.size w X) (hb : Below X.heap.size X Y) : Below w.heap.size w Y := h.trans (hb.mono h.size)
/-- an edit in memory, not frozen -/
def Ed2 (w : World) (g : Nat) (n : Int) (t : ByteArray) : Prop := w.cell? ⟨g, 0, none⟩ = some (.int .i64 n) ∧ w.cell? ⟨g, 1, none⟩ = some (.string t) ∧ ∀ i, w.frozen? ⟨g, i, none⟩ = false
theorem Ed2.new (w : World) (n : Int) (t : ByteArray) (T : TypeId) : Ed2 (w.alloc (.cells #[.int .i64 n, .string t] T)) w.heap.size n t := by
  refine ⟨?_, ?_, fun i => ?_⟩
  all_goals simp [go_sem]
theorem Ed2.lt {w : World} {g : Nat} {n : Int} {t : ByteArray} (h : Ed2 w g n t) : g < w.heap.size := World.block_lt_of_cell? _ _ h.1
theorem Ed2.keep {w w' : World} {g : Nat} {n : Int} {t : ByteArray} (h : Ed2 w g n t) (hb : Below w.heap.size w w') : Ed2 w' g n t :=
  ⟨keepcF hb h.1, keepcF hb h.2.1, fun i => by rw [hb.frozen (p := ⟨g, i, none⟩) h.lt]; exact h.2.2 i⟩
/-- an edit, as reading tells it -/
def RetPE (s : ByteArray) (w : World) (e : Ending) (w' : World) : Prop := ∃ b t y, e = .returned (.tuple #[.agg #[.int .i64 b, .string t], .bool y]) ∧ Pl.PE s b t y ∧ Below w.heap.size w w'
theorem Pl.PE.bad {s : ByteArray} (h : ∀ b' t', s = edT b' t' → validEdit b' t' = false) : PE s 0 ⟨#[]⟩ false := ⟨(fun h => by cases h), fun _ => ⟨rfl, rfl, h⟩⟩
theorem Pl.PE.good {s : ByteArray} {b : Int} {t : ByteArray} (h : s = edT b t) (hv : validEdit b t = true) : PE s b t true := ⟨fun _ => ⟨h, hv⟩, (fun h => by cases h)⟩
/-- where the parts were read, the edit is theirs -/
theorem Pl.read_back {s h t p : ByteArray} {n : Int} {y : Bool} (hk : HK s h t) (hp : ∀ z, h.data.toList = 45 :: z → p.data.toList = z) (hr : RD p n y) {b' : Int} {t' : ByteArray} (e : s = edT b' t') (hv : validEdit b' t' = true) : n = b' ∧ t = t' ∧ y = true := by
  obtain ⟨v0, v1⟩ := vb hv
  obtain ⟨k1, k2⟩ := hk.1 b' t' v0 e
  have hpn := ba_ext (hp _ k1)
  obtain ⟨u, rfl⟩ := Int.eq_ofNat_of_zero_le v0
  obtain ⟨r1, r2⟩ := hr.2.1 u (by omega) hpn
  exact ⟨r1, k2, r2⟩

set_option maxRecDepth 20000 in
set_option maxHeartbeats 1600000 in
theorem ParseEdit_any (s : ByteArray) (w : World) (hs : s.size ≤ 1048576) (hm : ∃ m, w.cell? ⟨0, 0, none⟩ = some (.int .i64 m)) (ht : Tab10 w) (he : ErrC w) :
    Calls Tryd.prog 7 #[.string s] w (RetPE s w) := by
  have HB0 := Lib.hid (Joins.below_alloc1 w (.cells #[.int .i64 0, .string ⟨#[]⟩] 23))
  have Q0 := Lib.hid (Ed2.new w 0 ⟨#[]⟩ 23)
  have HT0 := Lib.hid (ht.keep HB0.out)
  have HX0 := Lib.hid (he.keep HB0.out)
  have HM0 := Lib.hid (show ∃ m, (w.alloc (.cells #[.int .i64 0, .string ⟨#[]⟩] 23)).cell? ⟨0, 0, none⟩ = some (.int .i64 m) from by obtain ⟨m, hm⟩ := hm; exact ⟨m, keepcF HB0.out hm⟩)
  clear hm ht he
  go_enter Tryd.func7, Tryd.ntmps7
  go_upto_region 5 with (first
      | (go_at_call 11; have hx := HB3; (with_reducible refine (FormatEdit_any n t _ (by unfold maxLen; omega) ((HT3.out).keep (Joins.below_alloc1 _ _))).mono ?_); rintro e w4 ⟨rfl, hb⟩; have HB4 := Lib.hid ((HB3.out.alloc HB3.out.size (.cells #[.int .i64 n, .string t] 23)).trans (hb.mono (HB3.out.alloc HB3.out.size _).size)); have E4 := Lib.hid ((Ed2.new w3 n t 23).keep hb); have Q4 := Lib.hid ((Q3.out.keep (Joins.below_alloc1 _ _)).keep hb); clear hx hb)
      | (go_at_call 20; have hx := hp2; refine (ParseInt_any p _ (by unfold maxLen; omega) HT2.out HX2.out).mono ?_; rintro e w3 ⟨n, y, rfl, hr, hb⟩; have HR := Lib.hid hr; have HB3 := Lib.hid (HB2.out.trans (hb.mono HB2.out.size)); have HT3 := Lib.hid (HT2.out.keep hb); have Q3 := Lib.hid (Q2.out.keep hb); clear hx hb hr HX2 HT2)
      | (go_at_call 21; have hx := HB2; refine (TrimMinus_any h _).mono ?_; rintro e w2' ⟨p, rfl, hp, hw⟩; subst hw; have HP := Lib.hid hp; have hp2 := hp.2; clear hp hx)
      | (go_at_call 19; refine (CutPlus_any s _ hs HM0.out).mono ?_; rintro e w2 ⟨h, t, f, rfl, hk, hb⟩; have HK := Lib.hid hk; have hk1 := hk.2.1; have hk2 := hk.2.2; have HB2 := Lib.hid (HB0.out.trans (hb.mono HB0.out.size)); have HT2 := Lib.hid (HT0.out.keep hb); have HX2 := Lib.hid (HX0.out.keep hb); have Q2 := Lib.hid (Q0.out.keep hb); clear hb hk))
  have HBAD := Lib.hid (fun (b' : Int) (t' : ByteArray) (e : s = Pl.edT b' t') (hv : Pl.validEdit b' t' = true) => Pl.read_back HK.out HP.out.1 HR.out e hv)
  have HFE := Lib.hid (show Pl.feOut n t = if Pl.validEdit n t = true then Pl.edT n t else ⟨#[]⟩ from rfl)
  have l1 := Q4.out.lt
  have l2 := E4.out.lt
  obtain ⟨q0, q1, q2⟩ := Q4.out
  obtain ⟨d0, d1, _⟩ := E4.out
  have hB := HB4.out
  have hsz := HB4.out.size
  clear HB0 Q0 HT0 HX0 HM0 HB2 Q2 HB3 HT3 Q3 HR HP
  obtain ⟨q, hq⟩ : ∃ q, Pl.feOut n t = q := ⟨_, rfl⟩
  rw [hq]
  rw [hq] at HFE
  clear hq
  cases hv : Pl.validEdit n t
  · have HX := Lib.hid (Pl.PE.bad (s := s) (fun b' t' e => by
      cases hv' : Pl.validEdit b' t'
      · rfl
      · obtain ⟨rfl, rfl, _⟩ := HBAD.out b' t' e hv'
        rw [hv] at hv'; cases hv'))
    go_wp2
    refine bodyPost_ret (v := .tuple #[.agg #[.int .i64 0, .string ⟨#[]⟩], .bool false]) (by simp [results, Tryd.results7, go_sem, *]) rfl ⟨_, _, _, rfl, HX.out, (by repeat (first | with_reducible exact Below.refl _ _ | with_reducible assumption | with_reducible refine Below.alloc ?_ ?_ _ | with_reducible refine Below.setCell ?_ ?_ _ | with_reducible refine Below.drew ?_ | with_reducible refine below_drewN ?_ _ | with_reducible refine Below.trans ?_ (Below.mono (by assumption) ?_) | omega | ((repeat (first | rw [World.size_alloc] | rw [size_setCell] | rw [size_drewN] | rw [size_drew])); omega) | exact Nat.le_refl _ | (dsimp only; omega) | (simp [World.setCell]; omega)))⟩
  · rw [hv, if_pos rfl] at HFE
    by_cases hqs : q = s
    · have HX := Lib.hid (Pl.PE.good (s := s) (hqs.symm.trans HFE.out) hv)
      subst hqs
      go_wp2
      refine bodyPost_ret (v := .tuple #[.agg #[.int .i64 n, .string t], .bool true]) (by simp [results, Tryd.results7, go_sem, *]) rfl ⟨_, _, _, rfl, HX.out, (by repeat (first | with_reducible exact Below.refl _ _ | with_reducible assumption | with_reducible refine Below.alloc ?_ ?_ _ | with_reducible refine Below.setCell ?_ ?_ _ | with_reducible refine Below.drew ?_ | with_reducible refine below_drewN ?_ _ | with_reducible refine Below.trans ?_ (Below.mono (by assumption) ?_) | omega | ((repeat (first | rw [World.size_alloc] | rw [size_setCell] | rw [size_drewN] | rw [size_drew])); omega) | exact Nat.le_refl _ | (dsimp only; omega) | (simp [World.setCell]; omega)))⟩
    · have hqs2 : (q.toList == s.toList) = false := text_ne hqs
      have HX := Lib.hid (Pl.PE.bad (s := s) (fun b' t' e => by
        cases hv' : Pl.validEdit b' t'
        · rfl
        · obtain ⟨rfl, rfl, _⟩ := HBAD.out b' t' e hv'
          exact absurd (HFE.out.trans e.symm) hqs))
      go_wp2
      refine bodyPost_ret (v := .tuple #[.agg #[.int .i64 0, .string ⟨#[]⟩], .bool false]) (by simp [results, Tryd.results7, go_sem, *]) rfl ⟨_, _, _, rfl, HX.out, (by repeat (first | with_reducible exact Below.refl _ _ | with_reducible assumption | with_reducible refine Below.alloc ?_ ?_ _ | with_reducible refine Below.setCell ?_ ?_ _ | with_reducible refine Below.drew ?_ | with_reducible refine below_drewN ?_ _ | with_reducible refine Below.trans ?_ (Below.mono (by assumption) ?_) | omega | ((repeat (first | rw [World.size_alloc] | rw [size_setCell] | rw [size_drewN] | rw [size_drew])); omega) | exact Nat.le_refl _ | (dsimp only; omega) | (simp [World.setCell]; omega)))⟩

/-- the first part of a text cut at '+' -/
theorem Pl.first_part (s : ByteArray) : ∃ x rest, Pl.parts 43 s = x :: rest ∧ ((x = s ∧ (43 : UInt8) ∉ s.data.toList) ∨ ∃ r : ByteArray, s.data.toList = x.data.toList ++ 43 :: r.data.toList ∧ (43 : UInt8) ∉ x.data.toList) := by
  rcases Pl.plus_cases s with h | ⟨x, r, h1, h2⟩
  · exact ⟨s, [], Pl.parts_miss h, .inl ⟨rfl, h⟩⟩
  · exact ⟨x, _, Pl.parts_hit h1 h2, .inr ⟨r, h1, h2⟩⟩
theorem Pl.head_cons {x : ByteArray} (h : 0 < x.size) : x.data.toList = x[0] :: x.data.toList.drop 1 := by
  cases x with | mk d => cases d with | mk l => cases l with
    | nil => exact absurd h (by decide)
    | cons c r => rfl
theorem Pl.tail_list {x : ByteArray} {c : UInt8} {z : List UInt8} (h : x.data.toList = c :: z) : (x.extract 1 x.size).data.toList = z := by
  rw [Pl.ba_extract, h]
  show List.take (x.size - 1) z = z
  refine List.take_of_length_le ?_
  rw [Pl.ba_size, h, List.length_cons]
  omega
theorem Pl.after_plus {s x r : ByteArray} (h : s.data.toList = x.data.toList ++ 43 :: r.data.toList) : s.extract (x.size + 1) s.size = r := by
  refine Pl.ba_ext ?_
  rw [Pl.ba_extract]
  have e1 : s.data.toList.drop (x.size + 1) = r.data.toList := by
    rw [h, show x.data.toList ++ 43 :: r.data.toList = (x.data.toList ++ [43]) ++ r.data.toList by rw [List.append_assoc]; rfl]
    exact List.drop_left' (by rw [List.length_append, Pl.ba_size]; rfl)
  rw [e1]
  refine List.take_of_length_le ?_
  have := congrArg List.length h
  rw [List.length_append, List.length_cons] at this
  rw [Pl.ba_size s, Pl.ba_size x]
  omega

set_option maxRecDepth 20000 in
set_option maxHeartbeats 1600000 in
theorem specParseEdit_any (s : ByteArray) (w : World) (hs : s.size ≤ 1048576) :
    Calls Tryd.prog 6 #[.string s] w (RetPE s w) := by
  have HB0 := Lib.hid (Joins.below_alloc1 w (.cells #[.int .i64 0, .string ⟨#[]⟩] 23))
  have Q0 := Lib.hid (Ed2.new w 0 ⟨#[]⟩ 23)
  obtain ⟨x, rest, hp, hc⟩ := Pl.first_part s
  have HS : Hid (∀ W : World, Calls Tryd.prog 16 #[.string s, .int .u8 43] W (Cut1 W.heap.size W 43 s)) := Lib.hid (fun W => l1Split_any s 43 W (by omega))
  unfold Cut1 at HS
  rw [hp] at HS
  have hxs : x.size ≤ s.size := by
    rcases hc with ⟨rfl, _⟩ | ⟨r, h1, _⟩
    · exact Nat.le_refl _
    · rw [Pl.ba_size, Pl.ba_size s, h1, List.length_append]; omega
  have HC := Lib.hid hc
  clear hc hp
  go_enter Tryd.func6, Tryd.ntmps6
  go_upto_region 2 with (go_at_call 16; (with_reducible refine (HS.out _).mono ?_); rintro e w2 ⟨v2, rfl, ho2, hb⟩; obtain ⟨g2, c2, rfl⟩ := Joins.ownsRow_form ho2 (by simp); have hg2 := ho2.cellAt 0 (by simp); have hg3 : w2.cell? ⟨g2, 0, none⟩ = some (.string x) := hg2; have HB2 := Lib.hid (HB0.out.trans (hb.mono HB0.out.size)); have Q2 := Lib.hid (Q0.out.keep hb); clear hb ho2 hg2)
  have l1 := Q2.out.lt
  obtain ⟨q0, q1, q2⟩ := Q2.out
  have hB := HB2.out
  have hsz := HB2.out.size
  rcases HC.out with ⟨rfl, hno⟩ | ⟨r, h1, h2⟩
  · have HX := Lib.hid (Pl.PE.bad (s := x) (fun b' t' e => absurd e (Pl.edT_plus hno b' t')))
    go_wp2
    refine bodyPost_ret (v := .tuple #[.agg #[.int .i64 0, .string ⟨#[]⟩], .bool false]) (by simp [results, Tryd.results6, go_sem, *]) rfl ⟨_, _, _, rfl, HX.out, (by repeat (first | with_reducible exact Below.refl _ _ | with_reducible assumption | with_reducible refine Below.alloc ?_ ?_ _ | with_reducible refine Below.setCell ?_ ?_ _ | with_reducible refine Below.drew ?_ | with_reducible refine below_drewN ?_ _ | with_reducible refine Below.trans ?_ (Below.mono (by assumption) ?_) | omega | ((repeat (first | rw [World.size_alloc] | rw [size_setCell] | rw [size_drewN] | rw [size_drew])); omega) | exact Nat.le_refl _ | (dsimp only; omega) | (simp [World.setCell]; omega)))⟩
  have hlt : x.size < s.size := by rw [Pl.ba_size, Pl.ba_size s, h1, List.length_append, List.length_cons]; omega
  have hrs : r.size ≤ s.size := by rw [Pl.ba_size, Pl.ba_size s, h1, List.length_append, List.length_cons]; omega
  have hno1 : ¬ (x.size : Int) = (s.size : Int) := by omega
  have hnb1 : ((x.size : Int) == (s.size : Int)) = false := beq_eq_false_iff_ne.2 hno1
  have HT := Lib.hid (fun (b' : Int) (t' : ByteArray) (e : s = Pl.edT b' t') (hv : Pl.validEdit b' t' = true) => show x.data.toList = 45 :: (Pl.num b').data.toList ∧ r = t' by
    rw [e, Pl.edT_list] at h1
    obtain ⟨e1, e2⟩ := Pl.cut_one_way (Pl.plus_free (Pl.vb hv).1) h2 h1
    exact ⟨e1.symm, (Pl.ba_ext e2).symm⟩)
  have HS1 := Lib.hid (show ∀ z : List UInt8, x.data.toList = 45 :: z → r.size ≤ 1048576 → s.data.toList = 45 :: z ++ 43 :: r.data.toList from fun z hz _ => by rw [h1, hz])
  have HAF := Lib.hid (Pl.after_plus h1)
  clear HC h1 h2 HB0 Q0 HS
  by_cases hx0 : x.size = 0
  · obtain rfl := Pl.size_none hx0
    have HX := Lib.hid (Pl.PE.bad (s := s) (fun b' t' e => by
      cases hv : Pl.validEdit b' t'
      · rfl
      · have := (HT.out b' t' e hv).1; simp at this))
    go_wp2
    refine bodyPost_ret (v := .tuple #[.agg #[.int .i64 0, .string ⟨#[]⟩], .bool false]) (by simp [results, Tryd.results6, go_sem, *]) rfl ⟨_, _, _, rfl, HX.out, (by repeat (first | with_reducible exact Below.refl _ _ | with_reducible assumption | with_reducible refine Below.alloc ?_ ?_ _ | with_reducible refine Below.setCell ?_ ?_ _ | with_reducible refine Below.drew ?_ | with_reducible refine below_drewN ?_ _ | with_reducible refine Below.trans ?_ (Below.mono (by assumption) ?_) | omega | ((repeat (first | rw [World.size_alloc] | rw [size_setCell] | rw [size_drewN] | rw [size_drew])); omega) | exact Nat.le_refl _ | (dsimp only; omega) | (simp [World.setCell]; omega)))⟩
  have hxp : 0 < x.size := by omega
  have hne : (x.toList == (⟨#[]⟩ : ByteArray).toList) = false := text_ne (q := x) (s := ⟨#[]⟩) (fun e => hx0 (by rw [e]; rfl))
  have hne2 : (x.toList == ([] : List UInt8)) = false := by rw [Pl.ba_toList (⟨#[]⟩ : ByteArray)] at hne; exact hne
  have hcons := Pl.head_cons hxp
  by_cases h45 : x[0] = 45
  · have h45i : (x[0].toNat : Int) = 45 := by rw [h45]; rfl
    have HZ := Lib.hid (fun (z : List UInt8) (hz : x.data.toList = 45 :: z) => Pl.tail_list hz)
    have HZ0 := Lib.hid (show x.data.toList = 45 :: x.data.toList.drop 1 by rw [hcons, h45]; rfl)
    have hzs : (x.extract 1 x.size).size ≤ 1048576 := by rw [ByteArray.size_extract]; omega
    have hgt : (x.size : Int) + 1 ≤ (s.size : Int) := by omega
    have HRD := Lib.hid (fun W => l1Read_any (x.extract 1 x.size) W hzs)
    obtain ⟨z, hz⟩ : ∃ z, x.extract 1 x.size = z := ⟨_, rfl⟩
    rw [hz] at HRD HZ
    have HZE := Lib.hid hz
    clear hz hcons
    go_upto_region 5 with (go_at_call 17; rw [HZE.out]; (with_reducible refine (HRD.out _).mono ?_); rintro e w3 ⟨n, y, rfl, hr, hd⟩; have HR := Lib.hid hr; have hb3 := hd.below; have Q3 := Lib.hid (Q2.out.keep hb3); have hB3 := below_n5 hB hb3; clear hr hd hb3)
    go_upto_region 6 with fail
    rw [HAF.out]
    have E4 := Lib.hid (Ed2.new w3 n r 23)
    have Q4 := Lib.hid (Q3.out.keep (Joins.below_alloc1 _ (.cells #[.int .i64 n, .string r] 23)))
    have hB4 := hB3.alloc hB3.size (.cells #[.int .i64 n, .string r] 23)
    have HBK := Lib.hid (fun (b' : Int) (t' : ByteArray) (e : s = Pl.edT b' t') (hv : Pl.validEdit b' t' = true) => show n = b' ∧ r = t' ∧ y = true by
      obtain ⟨k1, k2⟩ := HT.out b' t' e hv
      obtain ⟨v0, v1⟩ := Pl.vb hv
      have hpn := Pl.ba_ext (HZ.out _ k1)
      obtain ⟨u, rfl⟩ := Int.eq_ofNat_of_zero_le v0
      obtain ⟨r1, r2⟩ := HR.out.2.1 u (by omega) hpn
      exact ⟨r1, k2, r2⟩)
    cases y
    · have HX := Lib.hid (Pl.PE.bad (s := s) (fun b' t' e => by
        cases hv : Pl.validEdit b' t'
        · rfl
        · have := (HBK.out b' t' e hv).2.2; cases this))
      have l4 := Q4.out.lt
      obtain ⟨q0, q1, q2⟩ := Q4.out
      go_wp2
      refine bodyPost_ret (v := .tuple #[.agg #[.int .i64 0, .string ⟨#[]⟩], .bool false]) (by simp [results, Tryd.results6, go_sem, *]) rfl ⟨_, _, _, rfl, HX.out, (by repeat (first | with_reducible exact Below.refl _ _ | with_reducible assumption | with_reducible refine Below.alloc ?_ ?_ _ | with_reducible refine Below.setCell ?_ ?_ _ | with_reducible refine Below.drew ?_ | with_reducible refine below_drewN ?_ _ | with_reducible refine Below.trans ?_ (Below.mono (by assumption) ?_) | omega | ((repeat (first | rw [World.size_alloc] | rw [size_setCell] | rw [size_drewN] | rw [size_drew])); omega) | exact Nat.le_refl _ | (dsimp only; omega) | (simp [World.setCell]; omega)))⟩
    · have HG := Lib.hid (fun W => l13Good_any n r W (by unfold maxLen; omega))
      cases hv : Pl.validEdit n r
      · rw [hv] at HG
        have HX := Lib.hid (Pl.PE.bad (s := s) (fun b' t' e => by
          cases hv' : Pl.validEdit b' t'
          · rfl
          · obtain ⟨rfl, rfl, _⟩ := HBK.out b' t' e hv'
            rw [hv] at hv'; cases hv'))
        go_upto_region 7 with (go_at_call 18; (with_reducible refine (HG.out _).mono ?_); rintro e w5 ⟨rfl, hb⟩; have Q5 := Lib.hid (Q4.out.keep hb); have hB5 := below_n5 hB4 hb; clear hb)
        have l5 := Q5.out.lt
        obtain ⟨q0, q1, q2⟩ := Q5.out
        go_wp2
        refine bodyPost_ret (v := .tuple #[.agg #[.int .i64 0, .string ⟨#[]⟩], .bool false]) (by simp [results, Tryd.results6, go_sem, *]) rfl ⟨_, _, _, rfl, HX.out, (by repeat (first | with_reducible exact Below.refl _ _ | with_reducible assumption | with_reducible refine Below.alloc ?_ ?_ _ | with_reducible refine Below.setCell ?_ ?_ _ | with_reducible refine Below.drew ?_ | with_reducible refine below_drewN ?_ _ | with_reducible refine Below.trans ?_ (Below.mono (by assumption) ?_) | omega | ((repeat (first | rw [World.size_alloc] | rw [size_setCell] | rw [size_drewN] | rw [size_drew])); omega) | exact Nat.le_refl _ | (dsimp only; omega) | (simp [World.setCell]; omega)))⟩
      · rw [hv] at HG
        have HX := Lib.hid (Pl.PE.good (s := s) (b := n) (t := r) (Pl.ba_ext (by
          have h5 := HZ.out _ HZ0.out
          have h6 := HS1.out _ HZ0.out (by omega)
          rw [Pl.edT_list, h6, ← h5, HR.out.1 rfl])) hv)
        go_upto_region 8 with (go_at_call 18; (with_reducible refine (HG.out _).mono ?_); rintro e w5 ⟨rfl, hb⟩; have Q5 := Lib.hid (Q4.out.keep hb); have E5 := Lib.hid (E4.out.keep hb); have hB5 := below_n5 hB4 hb; clear hb)
        have l5 := Q5.out.lt
        have l6 := E5.out.lt
        obtain ⟨q0, q1, q2⟩ := Q5.out
        obtain ⟨d0, d1, _⟩ := E5.out
        go_wp2
        refine bodyPost_ret (v := .tuple #[.agg #[.int .i64 n, .string r], .bool true]) (by simp [results, Tryd.results6, go_sem, *]) rfl ⟨_, _, _, rfl, HX.out, (by repeat (first | with_reducible exact Below.refl _ _ | with_reducible assumption | with_reducible refine Below.alloc ?_ ?_ _ | with_reducible refine Below.setCell ?_ ?_ _ | with_reducible refine Below.drew ?_ | with_reducible refine below_drewN ?_ _ | with_reducible refine Below.trans ?_ (Below.mono (by assumption) ?_) | omega | ((repeat (first | rw [World.size_alloc] | rw [size_setCell] | rw [size_drewN] | rw [size_drew])); omega) | exact Nat.le_refl _ | (dsimp only; omega) | (simp [World.setCell]; omega)))⟩
  · have h45i : ¬ (x[0].toNat : Int) = 45 := fun e => h45 (UInt8.toNat_inj.1 (show x[0].toNat = 45 by omega))
    have HX := Lib.hid (Pl.PE.bad (s := s) (fun b' t' e => by
      cases hv : Pl.validEdit b' t'
      · rfl
      · have := (HT.out b' t' e hv).1
        rw [hcons] at this
        exact absurd (List.cons.inj this).1 h45))
    have hb2 : ((x[0].toNat : Int) == 45) = false := beq_eq_false_iff_ne.2 h45i
    have hb3 : ((x[0].toNat : Int) != 45) = true := by rw [bne, hb2]; rfl
    clear hcons
    go_wp2
    refine bodyPost_ret (v := .tuple #[.agg #[.int .i64 0, .string ⟨#[]⟩], .bool false]) (by simp [results, Tryd.results6, go_sem, *]) rfl ⟨_, _, _, rfl, HX.out, (by repeat (first | with_reducible exact Below.refl _ _ | with_reducible assumption | with_reducible refine Below.alloc ?_ ?_ _ | with_reducible refine Below.setCell ?_ ?_ _ | with_reducible refine Below.drew ?_ | with_reducible refine below_drewN ?_ _ | with_reducible refine Below.trans ?_ (Below.mono (by assumption) ?_) | omega | ((repeat (first | rw [World.size_alloc] | rw [size_setCell] | rw [size_drewN] | rw [size_drew])); omega) | exact Nat.le_refl _ | (dsimp only; omega) | (simp [World.setCell]; omega)))⟩

end Go.Proofs.YtkbbcmbeafjpaabDoor
