/-
  CONTRACTS: the draws of a spoilt text, DrawFormatEdit, DrawParseEdit.
-/
import Derived.Test.YtkbbcmbeafjpaabDoorDrawEd
import Derived.Test.YtkbbcmbeafjpaabDoorPedF
import Derived.Deep.DeepCutAuto
namespace Go.Proofs.YtkbbcmbeafjpaabDoor
open Go.RowKit

theorem four_piece : ∀ r, r < 4 → ((⟨#[45, 43, 48, 120]⟩ : ByteArray).extract r 4).size = 4 - r := by
  intro r hr
  rw [ByteArray.size_extract]
  show min 4 4 - r = 4 - r
  rfl
set_option maxRecDepth 20000 in
set_option maxHeartbeats 1600000 in
theorem spoilt_any {v : Value} {m g B : Nat} {w0 w : World} (t : ByteArray) (h : Read v m g B w0 w) (hB : B ≤ 800000000) (h1 : 1 ≤ t.size) (h2 : t.size ≤ 20000) :
    Calls Tryd.prog 28 #[.pointer (some ⟨g, 0, none⟩), .string t, .string ⟨#[45, 43, 48, 120]⟩] w (DrawnS v m g (B + 6) w0 30000) := by
  have HD := Lib.hid (Read.refl h.1)
  have HH := Lib.hid h
  have hne : (t.toList == (⟨#[]⟩ : ByteArray).toList) = false := text_ne (q := t) (s := ⟨#[]⟩) (fun e => by rw [e] at h1; exact absurd h1 (by decide))
  have hne2 : (t.toList == ([] : List UInt8)) = false := by rw [Pl.ba_toList (⟨#[]⟩ : ByteArray)] at hne; exact hne
  clear h
  go_enter Tryd.func28, Tryd.ntmps28
  go_upto_region 4 with (go_at_call 39; refine (pick_any t.size HD.out (by omega) h1 (by omega)).mono ?_; rintro e w1 ⟨⟨i, rfl, hi⟩, hd⟩; have H1 := Lib.hid hd; clear hd)
  go_upto_region 5 with (go_at_call 39; refine (pick_any 4 (Read.refl H1.out.1) (by omega) (by decide) (by decide)).mono ?_; rintro e w2 ⟨⟨r, rfl, hr⟩, hd⟩; have H2 := Lib.hid (H1.out.trans hd); have hp := four_piece r hr; have hr4 : (r : Int) ≤ 4 := (by omega); clear hd)
  go_upto_region 6 with (go_at_call 39; refine (pick_any 3 (Read.refl H2.out.1) (by omega) (by decide) (by decide)).mono ?_; rintro e w3 ⟨⟨c, rfl, hc⟩, hd⟩; have H3 := Lib.hid (H2.out.trans hd); clear hd)
  have hq : (((⟨#[45, 43, 48, 120]⟩ : ByteArray).extract r 4).extract 0 1).size ≤ 1 := by rw [ByteArray.size_extract]; omega
  generalize ((⟨#[45, 43, 48, 120]⟩ : ByteArray).extract r 4).extract 0 1 = q at hq ⊢
  have a1 : (i : Int) ≤ (t.size : Int) := by omega
  have a2 : (i : Int) + 1 ≤ (t.size : Int) := by omega
  have a3 : (0 : Int) ≤ (i : Int) := by omega
  have a4 : (0 : Int) ≤ (i : Int) + 1 := by omega
  have a5 : ((i : Int) + 1).toNat = i + 1 := by omega
  have hw1 : IntKind.i64.wrap ((i : Int) + 1) = (i : Int) + 1 := IntWalk.i64_in _ (by omega)
  obtain rfl | rfl | rfl : c = 0 ∨ c = 1 ∨ c = 2 := by omega
  · go_wp2
    go_quiet (fail)
    go_wp2
    go_ret
    exact ⟨⟨_, rfl, by simp only [ByteArray.size_append, ByteArray.size_extract]; omega⟩, HH.out.trans ((H3.out.mono (show B + 2 + 2 + 2 ≤ B + 6 by omega)).to _)⟩
  · go_wp2
    go_quiet (fail)
    go_wp2
    go_ret
    exact ⟨⟨_, rfl, by simp only [ByteArray.size_append, ByteArray.size_extract]; omega⟩, HH.out.trans ((H3.out.mono (show B + 2 + 2 + 2 ≤ B + 6 by omega)).to _)⟩
  · go_wp2
    go_quiet (fail)
    go_wp2
    go_ret
    exact ⟨⟨_, rfl, by simp only [ByteArray.size_append, ByteArray.size_extract]; omega⟩, HH.out.trans ((H3.out.mono (show B + 2 + 2 + 2 ≤ B + 6 by omega)).to _)⟩

/-- an edit, made in new memory -/
def MadeE (w : World) (e : Ending) (w' : World) : Prop := ∃ (b : Int) (t : ByteArray), e = .returned (.agg #[.int .i64 b, .string t]) ∧ -1 ≤ b ∧ b ≤ 2001 ∧ t.size ≤ 2010 ∧ Below w.heap.size w w'
theorem Ed2.read {v : Value} {m g B : Nat} {a b : World} {R : Nat} {n : Int} {t : ByteArray} (h : Ed2 a R n t) (hd : Read v m g B a b) (hne : R ≠ g) : Ed2 b R n t :=
  ⟨hd.cellK hne h.1, hd.cellK hne h.2.1, fun i => (hd.cell h.lt hne i).2.trans (h.2.2 i)⟩

set_option maxHeartbeats 800000 in
theorem DrawIsValidEdit_any (v : Value) (w : World) (h : Code8 w v) : Calls Tryd.prog 22 #[v] w (MadeE w) := by
  have Q0 := Lib.hid ((Ed2.new w 0 ⟨#[]⟩ 23))
  have HB0 := Lib.hid (Joins.below_alloc1 w (.cells #[.int .i64 0, .string ⟨#[]⟩] 23))
  obtain ⟨l, h1, h2⟩ := h.alloc (.cells #[.int .i64 0, .string ⟨#[]⟩] 23)
  clear h
  have h3 := h2
  obtain ⟨a, cap, rfl, _, _, _, _, _⟩ := h3
  have HD := Lib.hid (Cur.newAt (World.size_alloc _ _) rfl h1 h2 51 : Cur (.slice a l.length cap) l.length (w.heap.size + 1) 0 ((w.alloc (.cells #[.int .i64 0, .string ⟨#[]⟩] 23)).alloc (.cells #[.slice a l.length cap, .int .i64 0, .int .u64 0] 51)))
  have Q1 := Lib.hid (Q0.out.keep (Joins.below_alloc1 _ (.cells #[.slice a l.length cap, .int .i64 0, .int .u64 0] 51)))
  have HB1 := Lib.hid (HB0.out.alloc HB0.out.size (.cells #[.slice a l.length cap, .int .i64 0, .int .u64 0] 51))
  clear h1 h2 Q0
  go_enter Tryd.func22, Tryd.ntmps22
  go_upto_region 2 with fail
  generalize hW : (w.alloc (.cells #[.int .i64 0, .string ⟨#[]⟩] 23)).alloc (.cells #[.slice a l.length cap, .int .i64 0, .int .u64 0] 51) = W0 at HD Q1 HB1 ⊢
  clear hW HB0
  have l0 := Q1.out.lt
  go_wp2_with (go_at_call 26; refine (edit_any (Read.refl HD.out) (by omega)).mono ?_; rintro e w1 ⟨⟨eb, et, rfl, heb1, heb2, het⟩, hd⟩; have Q2 := Lib.hid (Q1.out.read hd (by omega)); have HB2 := Lib.hid (HB1.out.trans (hd.below w.heap.size (by omega) HB1.out.size)); have l1 := Q2.out.lt; obtain ⟨q0, q1, q2⟩ := Q2.out; clear hd)
  have hB := HB2.out
  exact bodyPost_ret (v := .agg #[.int .i64 eb, .string et]) (by simp [results, Tryd.results22, go_sem, *]) rfl ⟨_, _, rfl, heb1, heb2, het, (by repeat (first | with_reducible exact Below.refl _ _ | with_reducible assumption | with_reducible refine Below.alloc ?_ ?_ _ | with_reducible refine Below.setCell ?_ ?_ _ | with_reducible refine Below.drew ?_ | with_reducible refine below_drewN ?_ _ | with_reducible refine Below.trans ?_ (Below.mono (by assumption) ?_) | omega | ((repeat (first | rw [World.size_alloc] | rw [size_setCell] | rw [size_drewN] | rw [size_drew])); omega) | exact Nat.le_refl _ | (dsimp only; omega) | (simp [World.setCell]; omega)))⟩

set_option maxHeartbeats 800000 in
theorem DrawFormatEdit_any (v : Value) (w : World) (h : Code8 w v) : Calls Tryd.prog 10 #[v] w (MadeE w) := by
  have Q0 := Lib.hid ((Ed2.new w 0 ⟨#[]⟩ 23))
  have HB0 := Lib.hid (Joins.below_alloc1 w (.cells #[.int .i64 0, .string ⟨#[]⟩] 23))
  have h2 := Lib.hid (h.alloc (.cells #[.int .i64 0, .string ⟨#[]⟩] 23))
  clear h
  go_enter Tryd.func10, Tryd.ntmps10
  go_wp2_with (go_at_call 22; refine (DrawIsValidEdit_any _ _ h2.out).mono ?_; rintro e w1 ⟨eb, et, rfl, heb1, heb2, het, hb⟩; have Q2 := Lib.hid (Q0.out.keep hb); have HB2 := Lib.hid (below_n5 HB0.out hb); have l1 := Q2.out.lt; obtain ⟨q0, q1, q2⟩ := Q2.out; clear hb)
  have hB := HB2.out
  exact bodyPost_ret (v := .agg #[.int .i64 eb, .string et]) (by simp [results, Tryd.results10, go_sem, *]) rfl ⟨_, _, rfl, heb1, heb2, het, (by repeat (first | with_reducible exact Below.refl _ _ | with_reducible assumption | with_reducible refine Below.alloc ?_ ?_ _ | with_reducible refine Below.setCell ?_ ?_ _ | with_reducible refine Below.drew ?_ | with_reducible refine below_drewN ?_ _ | with_reducible refine Below.trans ?_ (Below.mono (by assumption) ?_) | omega | ((repeat (first | rw [World.size_alloc] | rw [size_setCell] | rw [size_drewN] | rw [size_drew])); omega) | exact Nat.le_refl _ | (dsimp only; omega) | (simp [World.setCell]; omega)))⟩

theorem num_all_len {b : Int} (h0 : -1 ≤ b) (h1 : b ≤ 2001) : (Pl.num b).size ≤ 2010 := by
  by_cases h : 0 ≤ b
  · have := Pl.num_size_int h; omega
  · obtain rfl : b = -(1 : Nat) := by omega
    have h2 := Pl.num_neg 1 (by omega)
    have h3 := Pl.num_size 1
    rw [h2, ByteArray.size_append]
    show 1 + _ ≤ 2010
    omega

set_option maxRecDepth 20000 in
set_option maxHeartbeats 1600000 in
theorem DrawParseEdit_any (v : Value) (w : World) (h : Code8 w v) : Calls Tryd.prog 13 #[v] w (MadeS w 30000) := by
  obtain ⟨l, h1, h2⟩ := h
  have h3 := h2
  obtain ⟨a, cap, rfl, _, _, _, _, _⟩ := h3
  have HD := Lib.hid (Cur.new rfl h1 h2 51)
  have HB0 := Lib.hid (Joins.below_alloc1 w (.cells #[.slice a l.length cap, .int .i64 0, .int .u64 0] 51))
  clear h1 h2
  go_enter Tryd.func13, Tryd.ntmps13
  go_upto_region 2 with fail
  generalize hW : w.alloc (.cells #[.slice a l.length cap, .int .i64 0, .int .u64 0] 51) = W0 at HD HB0 ⊢
  clear hW
  go_upto_region 3 with (go_at_call 26; refine (edit_any (Read.refl HD.out) (by omega)).mono ?_; rintro e w1 ⟨⟨eb, et, rfl, heb1, heb2, het⟩, hd⟩; have H1 := Lib.hid hd; clear hd)
  have hn := num_all_len heb1 heb2
  have HN := Lib.hid (fun W => l1Num_any eb W (by omega) (by omega))
  generalize Pl.num eb = q at hn HN
  have H2 := Lib.hid (H1.out.alloc (.cells #[.int .i64 eb, .string et] 23))
  have E2 := Lib.hid (Ed2.new w1 eb et 23)
  have l2 := E2.out.lt
  obtain ⟨d0, d1, _⟩ := E2.out
  have hz : (⟨#[45]⟩ ++ q ++ ⟨#[43]⟩ ++ et : ByteArray).size = 1 + q.size + 1 + et.size := by simp only [ByteArray.size_append]; rfl
  go_quiet ((go_at_call 25; exact Calls.quiet_of (HN.out _)))
  generalize (⟨#[45]⟩ ++ q ++ ⟨#[43]⟩ ++ et : ByteArray) = t at hz ⊢
  have HB2 := Lib.hid (HB0.out.trans (H1.out.below w.heap.size (Nat.le_refl _) HB0.out.size))
  clear HN E2
  go_wp2_with (first
    | (go_at_call 28; have hx := H4; refine (spoilt_any t (Read.refl H4.out.1) (by omega) (by omega) (by omega)).mono ?_; rintro e w5 ⟨⟨sa, rfl, hsa⟩, hd⟩; have H5 := Lib.hid (H4.out.trans hd); clear hd hx)
    | (go_at_call 27; refine (one_any 3 (Read.refl (H2.out.to _).1) (by omega) (by decide) (by decide)).mono ?_; rintro e w4 ⟨⟨ba, rfl⟩, hd⟩; have H4 := Lib.hid ((H2.out.to _).trans hd); clear hd))
  all_goals go_ret
  · exact ⟨_, rfl, hsa, HB0.out.trans (H5.out.below w.heap.size (Nat.le_refl _) HB0.out.size)⟩
  · exact ⟨_, rfl, by omega, HB0.out.trans (H4.out.below w.heap.size (Nat.le_refl _) HB0.out.size)⟩

end Go.Proofs.YtkbbcmbeafjpaabDoor
