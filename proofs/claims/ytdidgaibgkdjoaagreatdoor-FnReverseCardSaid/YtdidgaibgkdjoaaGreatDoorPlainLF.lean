/-
  PLAIN: an outline looked up through folds; the outlines of entries that a fold unfolds to others.
-/
import Derived.Test.YtdidgaibgkdjoaaGreatDoorPlainSeg
import Derived.Test.YtdidgaibgkdjoaaGreatDoorBasC
import Derived.Test.YtdidgaibgkdjoaaGreatDoorBasB
namespace Go.Proofs.YtdidgaibgkdjoaaGreatDoor
open Go.RowKit

abbrev Fo := Int × ByteArray
/-- the outline is found by the fold -/
def flHit (l : List Ent) (o : List Int) (f : Fo) : Bool := Pl.unOk o f.1 && Pl.hasD l (Pl.un o f.1) && Pl.ftOk (Pl.textD l (Pl.un o f.1)) f.2
def flFrom (l : List Ent) (o : List Int) : Nat → List Fo → ByteArray × Int × Bool
  | _, [] => (⟨#[]⟩, 0, false)
  | k, f :: r => if flHit l o f = true then (Pl.foldT (Pl.textD l (Pl.un o f.1)) f.2, (k : Int), true) else flFrom l o (k + 1) r
def flAll (l : List Ent) (F : List Fo) (o : List Int) : ByteArray × Int × Bool := if Pl.hasD l o = true then (Pl.textD l o, -1, true) else flFrom l o 0 F
def lfOk (l : List Ent) (F : List Fo) (o : List Int) : Bool := Pl.dictOk l && Pl.foldsOk F && Pl.outlineB o
def lfOut (l : List Ent) (F : List Fo) (o : List Int) : ByteArray × Int × Bool := if lfOk l F o = true then flAll l F o else (⟨#[]⟩, 0, false)
theorem fl_none (l : List Ent) (o : List Int) (k : Nat) (F : List Fo) (h : F.length ≤ k) : flFrom l o k (F.drop k) = (⟨#[]⟩, 0, false) := by
  rw [List.drop_eq_nil_of_le h]; rfl
theorem fl_hit {l : List Ent} {o : List Int} {k : Nat} {F : List Fo} (hk : k < F.length) {f : Fo} (hf : F[k] = f) (h : flHit l o f = true) : flFrom l o k (F.drop k) = (Pl.foldT (Pl.textD l (Pl.un o f.1)) f.2, (k : Int), true) := by
  rw [List.drop_eq_getElem_cons hk, hf]
  unfold flFrom
  rw [if_pos h]
theorem fl_miss {l : List Ent} {o : List Int} {k : Nat} {F : List Fo} (hk : k < F.length) {f : Fo} (hf : F[k] = f) (h : flHit l o f = false) : flFrom l o k (F.drop k) = flFrom l o (k + 1) (F.drop (k + 1)) := by
  rw [List.drop_eq_getElem_cons hk, hf]
  conv => lhs; unfold flFrom
  rw [if_neg (by rw [h]; decide)]
theorem flhit_no1 {l : List Ent} {o : List Int} {f : Fo} (h : Pl.unOk o f.1 = false) : flHit l o f = false := by unfold flHit; rw [h]; rfl
theorem flhit_no2 {l : List Ent} {o : List Int} {f : Fo} (h : Pl.hasD l (Pl.un o f.1) = false) : flHit l o f = false := by unfold flHit; rw [h, Bool.and_false]; rfl
theorem flhit_is {l : List Ent} {o : List Int} {f : Fo} (h1 : Pl.unOk o f.1 = true) (h2 : Pl.hasD l (Pl.un o f.1) = true) : flHit l o f = Pl.ftOk (Pl.textD l (Pl.un o f.1)) f.2 := by unfold flHit; rw [h1, h2]; rfl
theorem un_len {o : List Int} {k : Int} (h : 1 ≤ o.length) (hu : Pl.unOk o k = true) : (Pl.un o k).length = o.length := by
  rw [un_yes hu, Pl.withLast_length _ _ h]
theorem folds_at_ok {F : List Fo} (h : Pl.foldsOk F = true) {k : Nat} (hk : k < F.length) : Pl.foldB (F[k]).1 (F[k]).2 = true := by
  cases hg : Pl.foldAt F k with
  | false => rw [Pl.foldsOk_no hk hg] at h; exact absurd h (by decide)
  | true =>
    rw [Pl.foldAt_eq hk rfl, Bool.and_eq_true] at hg
    exact hg.1
theorem folds_len {F : List Fo} (h : Pl.foldsOk F = true) : F.length ≤ 6 := by
  unfold Pl.foldsOk at h
  rw [Bool.and_eq_true, decide_eq_true_iff] at h
  exact h.1
theorem lfOk_told {l : List Ent} {F : List Fo} {o : List Int} (h : lfOk l F o = true) : Pl.dictOk l = true ∧ Pl.foldsOk F = true ∧ Pl.outlineB o = true := by
  unfold lfOk at h
  rw [Bool.and_eq_true, Bool.and_eq_true] at h
  exact ⟨h.1.1, h.1.2, h.2⟩

/-- an entry's outline that a fold unfolds to another entry's -/
def foHit (l : List Ent) (o : List Int) (f : Fo) : Bool := Pl.unOk o f.1 && Pl.hasD l (Pl.un o f.1)
def foAny (l : List Ent) (F : List Fo) (o : List Int) : Bool := F.any (foHit l o)
def foTo (l : List Ent) (F : List Fo) (k : Nat) : List (List Int) := ((l.take k).filter fun p => foAny l F p.1).map Prod.fst
def foOk (l : List Ent) (F : List Fo) : Bool := Pl.dictOk l && Pl.foldsOk F
def foOut (l : List Ent) (F : List Fo) : List (List Int) := if foOk l F = true then foTo l F l.length else []
theorem fo_next {l : List Ent} {F : List Fo} {k : Nat} (hk : k < l.length) : foTo l F (k + 1) = foTo l F k ++ (if foAny l F (l[k]).1 = true then [(l[k]).1] else []) := by
  unfold foTo
  rw [List.take_add_one, List.getElem?_eq_getElem hk, List.filter_append, List.map_append]
  congr 1
  simp only [Option.toList_some, List.filter_cons, List.filter_nil]
  split <;> simp
theorem fo_len (l : List Ent) (F : List Fo) (k : Nat) : (foTo l F k).length ≤ l.length := by
  unfold foTo
  rw [List.length_map]
  exact Nat.le_trans (List.length_filter_le _ _) (by rw [List.length_take]; omega)

end Go.Proofs.YtdidgaibgkdjoaaGreatDoor
