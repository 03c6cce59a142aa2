/-
  CONTRACT: an entry that is drawn.
-/
import Derived.Test.YtdidgaibgkdjoaaGreatDoorDrawPut
namespace Go.Proofs.YtdidgaibgkdjoaaGreatDoor
open Go.RowKit

/-- an entry, in new memory -/
def DrawnN (v : Value) (m g B : Nat) (w w0 : World) (e : Ending) (w' : World) : Prop :=
  (∃ (la lc : Nat) (l : List Int) (t : ByteArray), e = .returned (.agg #[.slice (some ⟨la, 0, none⟩) l.length lc, .string t]) ∧ w'.ownsRow w.heap.size 3 1 (.slice (some ⟨la, 0, none⟩) l.length lc) l.length (ints l) ∧ 1 ≤ l.length ∧ l.length ≤ 3 ∧ t.size ≤ 1070) ∧ Read v m g B w0 w'
theorem keptE (w : World) (T : TypeId) : (w.alloc (.cells #[.slice none 0 0, .string ⟨#[]⟩] T)).cell? ⟨w.heap.size, 0, none⟩ = some (.slice none 0 0) ∧ (w.alloc (.cells #[.slice none 0 0, .string ⟨#[]⟩] T)).cell? ⟨w.heap.size, 1, none⟩ = some (.string ⟨#[]⟩) ∧ thawed (w.alloc (.cells #[.slice none 0 0, .string ⟨#[]⟩] T)) w.heap.size := by
  refine ⟨?_, ?_, fun i => ?_⟩
  all_goals simp [go_sem]
theorem own_set2 {w : World} {b : Nat} {E : TypeId} {s n : Nat} {v : Value} {xs : List Value} (h : w.ownsRow (b + 1) E s v n xs) (i j : Nat) (x y : Value) : ((w.setCell ⟨b, i, none⟩ x).setCell ⟨b, j, none⟩ y).ownsRow b E s v n xs := by
  refine own_lower2 (h.kept (grownBy_trans (grown_set _ _ _ _) (grown_set _ _ _ _)) ?_) (Nat.le_succ b)
  cases hv : v.ownBlock with
  | none => exact .inl rfl
  | some k => exact .inr (fun e => by have := (h.lt k hv).1; injection e with e; omega)

set_option maxHeartbeats 1600000 in
theorem entry_any {v : Value} {m g B : Nat} {w0 w : World} (h : Read v m g B w0 w) (hB : B ≤ 600000000) :
    Calls Tryz.prog 89 #[.pointer (some ⟨g, 0, none⟩)] w (DrawnN v m g (B + 200) w w0) := by
  have h1 := h.1
  have hg := h1.lt
  have hne : w.heap.size ≠ g := by omega
  have hgs : g < w.heap.size + 1 := by omega
  have HS := Lib.hid (World.size_alloc w (.cells #[.slice none 0 0, .string ⟨#[]⟩] 39))
  have HA := Lib.hid ((Read.refl h1).alloc (.cells #[.slice none 0 0, .string ⟨#[]⟩] 39))
  have C := Lib.hid (keptE w 39)
  have HH := Lib.hid h; have HN := Lib.hid h1; clear h h1
  go_enter Tryz.func89, Tryz.ntmps89
  go_wp2_with (first
    | (go_at_call 46; have hx := O1; refine (translation_any (Read.refl H1.out.1) (by omega)).mono ?_; rintro e w2 ⟨⟨t, rfl, ht⟩, hd⟩; have O2 := Lib.hid (own_read O1.out hd hgs); have H2 := Lib.hid (H1.out.trans hd); have hc0 := H2.out.cellK hne C.out.1; have hc1 := H2.out.cellK hne C.out.2.1; have hf0 := H2.out.thaw hne (by rw [HS.out]; omega) C.out.2.2 0; have hf1 := H2.out.thaw hne (by rw [HS.out]; omega) C.out.2.2 1; clear hd hx)
    | (go_at_call 138; refine (outline_any (Read.refl HA.out.1) (by omega)).mono ?_; rintro e w1 ⟨⟨la, lc, l, rfl, hown, hl1, hl⟩, hd⟩; have O1 := Lib.hid (own_lower2 hown (Nat.le_of_eq HS.out.symm)); have H1 := Lib.hid hd; clear hd hown))
  refine bodyPost_ret (v := .agg #[.slice (some ⟨la, 0, none⟩) l.length lc, .string t]) (by simp [results, Tryz.results89, go_sem, *]) rfl ⟨⟨_, _, l, t, rfl, own_set2 O2.out 0 1 _ _, hl1, hl, ht⟩, HH.out.trans (((HA.out.trans H2.out).setNew HN.out (Nat.le_refl _) 0 _).setNew HN.out (Nat.le_refl _) 1 _ |>.mono (by omega))⟩

end Go.Proofs.YtdidgaibgkdjoaaGreatDoor
