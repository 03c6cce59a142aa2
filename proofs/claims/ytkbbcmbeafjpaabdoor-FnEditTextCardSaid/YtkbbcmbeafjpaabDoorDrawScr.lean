/-
  CONTRACTS: the draws of screens and edits: screen, anyScreen, edit, DrawLeastEdit, DrawApplyEdit, DrawComposeEdits, DrawInvertEdit. What is drawn is told by bounds alone.
-/
import Derived.Test.YtkbbcmbeafjpaabDoorDrawWord
namespace Go.Proofs.YtkbbcmbeafjpaabDoor
open Go.RowKit

set_option maxHeartbeats 800000 in
theorem screen_any {v : Value} {m g B : Nat} {w0 w : World} (h : Read v m g B w0 w) (hB : B ≤ 1000000000) :
    Calls Tryd.prog 48 #[.pointer (some ⟨g, 0, none⟩)] w (DrawnS v m g (B + 2) w0 2010) := by
  have HD := Lib.hid h; clear h
  go_enter Tryd.func48, Tryd.ntmps48
  go_wp2_with ((go_at_call 40; refine (of_lit [⟨#[]⟩, ⟨#[116, 104, 101, 32, 99, 97, 116]⟩, ⟨#[116, 104, 101, 32, 99, 97, 116, 115]⟩, ⟨#[109, 97, 107, 105, 110, 103]⟩, ⟨#[109, 97, 107, 101]⟩, ⟨#[97]⟩, ⟨#[84, 104, 101, 32, 101, 110, 100, 46]⟩, ⟨#[116, 104, 101, 32, 99, 97, 112]⟩, ⟨#[117, 110, 100, 111, 105, 110, 103, 46, 32, 67, 97, 116]⟩] 2010 (by repeat (first | with_reducible exact HD.out | with_reducible apply Read.alloc | with_reducible apply Read.to)) (by omega) (by decide) (by decide) (by decide) _).mono ?_; rintro e w' ⟨⟨sa, rfl, hsa⟩, hd⟩; replace HD := Lib.hid hd; clear hd))
  go_ret
  exact ⟨⟨_, rfl, hsa⟩, HD.out⟩

def szOf : Value → Nat
  | .string b => b.size
  | _ => 0
theorem size_x (b : ByteArray) : (b ++ ⟨#[120]⟩).size = b.size + 1 := by rw [ByteArray.size_append]; rfl

set_option maxHeartbeats 800000 in
theorem anyScreen_any {v : Value} {m g B : Nat} {w0 w : World} (h : Read v m g B w0 w) (hB : B ≤ 900000000) :
    Calls Tryd.prog 38 #[.pointer (some ⟨g, 0, none⟩)] w (DrawnS v m g (B + 5000) w0 2010) := by
  have HD := Lib.hid h; clear h
  go_enter Tryd.func38, Tryd.ntmps38
  go_wp2_with (first | (go_at_call 27; refine (one_any _ (by repeat (first | with_reducible exact HD.out | with_reducible apply Read.alloc | with_reducible apply Read.to)) (by omega) (by decide) (by decide)).mono ?_; rintro e w' ⟨⟨ba, rfl⟩, hd⟩; replace HD := Lib.hid hd; clear hd) | (go_at_call 40; refine (of_lit [⟨#[97, 10, 98]⟩, ⟨#[127]⟩, ⟨#[0]⟩] 2010 (by repeat (first | with_reducible exact HD.out | with_reducible apply Read.alloc | with_reducible apply Read.to)) (by omega) (by decide) (by decide) (by decide) _).mono ?_; rintro e w' ⟨⟨sa, rfl, hsa⟩, hd⟩; replace HD := Lib.hid hd; clear hd) | (go_at_call 48; refine (screen_any (by repeat (first | with_reducible exact HD.out | with_reducible apply Read.alloc | with_reducible apply Read.to)) (by omega)).mono ?_; rintro e w' ⟨⟨sa, rfl, hsa⟩, hd⟩; replace HD := Lib.hid hd; clear hd))
  · go_ret
    exact ⟨⟨_, rfl, hsa⟩, HD.out.mono (by omega)⟩
  · rename_i hq K hK; subst hq
    go_loopw [3] (fun s wr => ∃ b : ByteArray, s = .string b ∧ b.size ≤ 2001 ∧ Read v m g (B + 4 + 2 * b.size) w0 wr) (fun s _ => 2002 - szOf s)
    case atStart => exact ⟨⟨#[]⟩, rfl, Nat.zero_le _, HD.out⟩
    case round =>
      obtain ⟨b, rfl, hb, hd⟩ := hrel
      replace HD := Lib.hid hd; clear hd
      have hbx := size_x b
      go_wp2_with (first | (go_at_call 39; refine (pick_any 3 (by repeat (first | with_reducible exact HD.out | with_reducible apply Read.alloc | with_reducible apply Read.to)) (by omega) (by decide) (by decide)).mono ?_; rintro e w' ⟨⟨ra, rfl, hra⟩, hd⟩; replace HD := Lib.hid hd; clear hd))
      · go_roundw
        case rel => exact ⟨_, rfl, by omega, HD.out.mono (by omega)⟩
        case measure => show 2002 - (b ++ ⟨#[120]⟩ : ByteArray).size < 2002 - b.size; omega
      · go_ret
        exact ⟨⟨_, rfl, by omega⟩, HD.out.mono (by omega)⟩
  · go_ret
    exact ⟨⟨_, rfl, hsa⟩, HD.out.mono (by omega)⟩

def DrawnE (v : Value) (m g B : Nat) (w : World) (e : Ending) (w' : World) : Prop := (∃ (b : Int) (t : ByteArray), e = .returned (.agg #[.int .i64 b, .string t]) ∧ -1 ≤ b ∧ b ≤ 2001 ∧ t.size ≤ 2010) ∧ Read v m g B w w'

/-- another block than the cursor's reads as before -/
theorem Read.cell {v : Value} {m g B : Nat} {a b : World} (h : Read v m g B a b) {R : Nat} (hlt : R < a.heap.size) (hne : R ≠ g) (i : Nat) :
    b.cell? ⟨R, i, none⟩ = a.cell? ⟨R, i, none⟩ ∧ b.frozen? ⟨R, i, none⟩ = a.frozen? ⟨R, i, none⟩ := by
  have e := h.2.block R hlt (fun h => hne (by injection h))
  unfold World.cell? World.frozen?
  simp only [e, and_self]
/-- a new block is written -/
theorem Read.setNew {v : Value} {m g B B0 : Nat} {a b : World} (h : Read v m g B a b) (h0 : Cur v m g B0 a) {R : Nat} (hR : a.heap.size ≤ R) (i : Nat) (u : Value) : Read v m g B a (b.setCell ⟨R, i, none⟩ u) := by
  have hg := h0.lt
  have hgr : a.grownBy (b.setCell ⟨R, i, none⟩ u) (some g) := ⟨h.2.os, h.2.tape, h.2.output, by rw [size_setCell]; exact h.2.size, fun j hj hne => by
    have hb : j ≠ R := by omega
    rw [Below.heap_setCell _ _ _ _ hb]; exact h.2.block j hj hne⟩
  obtain ⟨h1, ⟨l, l1, l2, l3⟩, h3, ⟨k, h4, h5⟩, ⟨z, h6⟩, h7⟩ := h.1
  obtain ⟨_, ⟨l', l1', l2', l3'⟩, _⟩ := h0
  have hn : ∀ o : Nat, (⟨R, i, none⟩ : Addr) ≠ ⟨g, o, none⟩ := fun o e => by injection e with e _ _; omega
  refine ⟨⟨h1, ⟨l', l1', l2', rows_grown l3' hgr h1⟩, ?_, ⟨k, h4, ?_⟩, ⟨z, ?_⟩, fun o => ?_⟩, hgr⟩
  · rw [World.cell?_setCell_other _ _ _ _ (hn 0)]; exact h3
  · rw [World.cell?_setCell_other _ _ _ _ (hn 1)]; exact h5
  · rw [World.cell?_setCell_other _ _ _ _ (hn 2)]; exact h6
  · have := h7 o
    simpa [go_sem] using this

set_option maxHeartbeats 800000 in
theorem edit_any {v : Value} {m g B : Nat} {w0 w : World} (h : Read v m g B w0 w) (hB : B ≤ 800000000) :
    Calls Tryd.prog 26 #[.pointer (some ⟨g, 0, none⟩)] w (DrawnE v m g (B + 6000) w0) := by
  have h1 := h.1
  have hg := h1.lt
  have hne : w.heap.size ≠ g := by omega
  have hlt : w.heap.size < (w.alloc (.cells #[.int .i64 0, .string ⟨#[]⟩] 23)).heap.size := by rw [World.size_alloc]; omega
  have HA := Lib.hid ((Read.refl h1).alloc (.cells #[.int .i64 0, .string ⟨#[]⟩] 23))
  have HD := Lib.hid (Read.refl HA.out.1)
  have C0 := Lib.hid (show (w.alloc (.cells #[.int .i64 0, .string ⟨#[]⟩] 23)).cell? ⟨w.heap.size, 0, none⟩ = some (.int .i64 0) by rw [World.cell?_alloc_mark]; rfl)
  have C1 := Lib.hid (show (w.alloc (.cells #[.int .i64 0, .string ⟨#[]⟩] 23)).cell? ⟨w.heap.size, 1, none⟩ = some (.string ⟨#[]⟩) by rw [World.cell?_alloc_mark]; rfl)
  have F := Lib.hid (show thawed (w.alloc (.cells #[.int .i64 0, .string ⟨#[]⟩] 23)) w.heap.size from fun i => by simp [go_sem])
  have HH := Lib.hid h; have HN := Lib.hid h1; clear h h1
  go_enter Tryd.func26, Tryd.ntmps26
  go_wp2_with (first | (go_at_call 27; refine (one_any _ (by repeat (first | with_reducible exact HD.out | with_reducible apply Read.alloc | with_reducible apply Read.to)) (by omega) (by decide) (by decide)).mono ?_; rintro e w' ⟨⟨ba, rfl⟩, hd⟩; replace HD := Lib.hid hd; clear hd; have hc0 := ((HD.out.cell hlt hne 0).1.trans C0.out); have hc1 := ((HD.out.cell hlt hne 1).1.trans C1.out); have hf0 := ((HD.out.cell hlt hne 0).2.trans (F.out 0)); have hf1 := ((HD.out.cell hlt hne 1).2.trans (F.out 1))) | (go_at_call 37; refine (among_lit [-1, 2000, 2001, 1] (fun x => -1 ≤ x ∧ x ≤ 2001) (by repeat (first | with_reducible exact HD.out | with_reducible apply Read.alloc | with_reducible apply Read.to)) (by omega) (by decide) (by decide) (by decide) _).mono ?_; rintro e w' ⟨⟨ia, rfl, hia1, hia2⟩, hd⟩; replace HD := Lib.hid hd; clear hd; have hc0 := ((HD.out.cell hlt hne 0).1.trans C0.out); have hc1 := ((HD.out.cell hlt hne 1).1.trans C1.out); have hf0 := ((HD.out.cell hlt hne 0).2.trans (F.out 0)); have hf1 := ((HD.out.cell hlt hne 1).2.trans (F.out 1))) | (go_at_call 38; refine (anyScreen_any (by repeat (first | with_reducible exact HD.out | with_reducible apply Read.alloc | with_reducible apply Read.to)) (by omega)).mono ?_; rintro e w' ⟨⟨sa, rfl, hsa⟩, hd⟩; replace HD := Lib.hid hd; clear hd; have hc0 := ((HD.out.cell hlt hne 0).1.trans C0.out); have hc1 := ((HD.out.cell hlt hne 1).1.trans C1.out); have hf0 := ((HD.out.cell hlt hne 0).2.trans (F.out 0)); have hf1 := ((HD.out.cell hlt hne 1).2.trans (F.out 1))) | (go_at_call 39; refine (pick_any 5 (by repeat (first | with_reducible exact HD.out | with_reducible apply Read.alloc | with_reducible apply Read.to)) (by omega) (by decide) (by decide)).mono ?_; rintro e w' ⟨⟨ra, rfl, hra⟩, hd⟩; replace HD := Lib.hid hd; clear hd; have hc0 := ((HD.out.cell hlt hne 0).1.trans C0.out); have hc1 := ((HD.out.cell hlt hne 1).1.trans C1.out); have hf0 := ((HD.out.cell hlt hne 0).2.trans (F.out 0)); have hf1 := ((HD.out.cell hlt hne 1).2.trans (F.out 1))) | (go_at_call 40; refine (of_lit [⟨#[]⟩, ⟨#[115]⟩, ⟨#[105, 110, 103]⟩, ⟨#[32, 99, 97, 116]⟩, ⟨#[97, 32, 98, 32, 99]⟩] 2010 (by repeat (first | with_reducible exact HD.out | with_reducible apply Read.alloc | with_reducible apply Read.to)) (by omega) (by decide) (by decide) (by decide) _).mono ?_; rintro e w' ⟨⟨sa, rfl, hsa⟩, hd⟩; replace HD := Lib.hid hd; clear hd; have hc0 := ((HD.out.cell hlt hne 0).1.trans C0.out); have hc1 := ((HD.out.cell hlt hne 1).1.trans C1.out); have hf0 := ((HD.out.cell hlt hne 0).2.trans (F.out 0)); have hf1 := ((HD.out.cell hlt hne 1).2.trans (F.out 1))))
  · exact bodyPost_ret (v := .agg #[.int .i64 ia, .string sa]) (by simp [results, Tryd.results26, go_sem, *]) rfl ⟨⟨_, _, rfl, hia1, hia2, hsa⟩, HH.out.trans (((HA.out.trans HD.out).setNew HN.out (Nat.le_refl _) 0 _).setNew HN.out (Nat.le_refl _) 1 _ |>.mono (by omega))⟩
  · exact bodyPost_ret (v := .agg #[.int .i64 ra, .string sa]) (by simp [results, Tryd.results26, go_sem, *]) rfl ⟨⟨_, _, rfl, by omega, by omega, hsa⟩, HH.out.trans (((HA.out.trans HD.out).setNew HN.out (Nat.le_refl _) 0 _).setNew HN.out (Nat.le_refl _) 1 _ |>.mono (by omega))⟩

end Go.Proofs.YtkbbcmbeafjpaabDoor
