/-
  CONTRACTS: the draw of a state.
-/
import Derived.Test.YtkbbcmbeafjpaabDrawSeq
import Derived.Test.YtkbbcmbeafjpaabStRender
import Derived.Deep.RegionLaw
import Derived.Deep.DeepCutAuto
namespace Go.Proofs.Ytkbbcmbeafjpaab
open Go.RowKit

theorem St.read {v : Value} {m g B : Nat} {a b : World} {R : Nat} {s : Pl.Sta} (h : St a R s) (hd : Read v m g B a b) (hne : R ≠ g) : St b R s :=
  ⟨hd.cellK hne h.1, hd.cellK hne h.2.1, hd.cellK hne h.2.2.1, hd.cellK hne h.2.2.2.1, hd.cellK hne h.2.2.2.2.1, hd.thaw hne h.lt h.2.2.2.2.2⟩
theorem Read.setSt {v : Value} {m g B B0 : Nat} {a b : World} {R : Nat} {s0 : Pl.Sta} (h : Read v m g B a b) (h0 : Cur v m g B0 a) (hz : St b R s0) (hR : a.heap.size ≤ R) (s : Pl.Sta) :
    Read v m g B a (((((b.setCell ⟨R, 0, none⟩ (.string s.t)).setCell ⟨R, 1, none⟩ (.bool s.j)).setCell ⟨R, 2, none⟩ (.bool s.g)).setCell ⟨R, 3, none⟩ (.int .i64 s.c)).setCell ⟨R, 4, none⟩ (.int .i64 s.k)) :=
  h.grownNew h0 (hz.set s).2 (fun k hk => by injection hk with hk; omega)
theorem St.set1 {w : World} {b : Nat} {t : ByteArray} {j g : Bool} {c k : Int} (h : St w b ⟨t, j, g, c, k⟩) (x : ByteArray) : St (w.setCell ⟨b, 0, none⟩ (.string x)) b ⟨x, j, g, c, k⟩ := by
  obtain ⟨c0, c1, c2, c3, c4, hf⟩ := h
  have hf : ∀ i, w.frozen? ⟨b, i, none⟩ = false := hf
  dsimp only at c0 c1 c2 c3 c4
  refine ⟨?_, ?_, ?_, ?_, ?_, fun i => ?_⟩
  all_goals simp [go_sem, *]
theorem St.other {w : World} {b R : Nat} {s : Pl.Sta} (h : St w b s) (hne : b ≠ R) (i : Nat) (u : Value) : St (w.setCell ⟨R, i, none⟩ u) b s := h.grown (grown_set w R i u) hne

/-- a state, made in new memory -/
def DrawnT (v : Value) (m g B : Nat) (w : World) (e : Ending) (w' : World) : Prop :=
  (∃ (t : ByteArray) (j l : Bool) (c k : Int), e = .returned (.agg #[.string t, .bool j, .bool l, .int .i64 c, .int .i64 k]) ∧ t.size ≤ 2010 ∧ -1 ≤ c ∧ c ≤ 3 ∧ -1 ≤ k ∧ k ≤ 2010) ∧ Read v m g B w w'

theorem of_litPn {v : Value} {m g B n : Nat} {w0 w : World} (hn : w.heap.size = n) (l : List ByteArray) (P : ByteArray → Prop) (h : Read v m g B w0 w) (hB : B ≤ 1000000000) (h1 : 1 ≤ l.length) (h2 : l.length ≤ 60000) (hk : ∀ s ∈ l, P s) (E : TypeId) :
    Calls Try.prog 34 #[.pointer (some ⟨g, 0, none⟩), .slice (some ⟨n, 0, none⟩) l.length l.length] (w.alloc (.cells (strs l).toArray E)) (DrawnP v m g (B + 2) w0 P) := by
  subst hn; exact of_litP l P h hB h1 h2 hk E
def SomeSt (w : World) (e : Ending) (w' : World) : Prop :=
  ∃ (t : ByteArray) (j l : Bool) (c k : Int) (ok : Bool), e = .returned (.tuple #[.agg #[.string t, .bool j, .bool l, .int .i64 c, .int .i64 k], .bool ok]) ∧ t.size ≤ 2000 ∧ 0 ≤ c ∧ c ≤ 2 ∧ 0 ≤ k ∧ k ≤ 2000 ∧ Below w.heap.size w w'
theorem specApplyAtoms_some (t : ByteArray) (j g : Bool) (c k : Int) (v : Value) (l : List (Int × ByteArray)) (w : World) (ht : t.size ≤ maxLen) (hr : Rows w v l.length 2 (folds l)) (hf : ∀ p ∈ l, p.2.size ≤ maxLen) :
    Calls Try.prog 30 #[.agg #[.string t, .bool j, .bool g, .int .i64 c, .int .i64 k], v] w (SomeSt w) := by
  refine (specApplyAtoms_any t j g c k v l w ht hr hf).mono ?_
  rintro e w' ⟨he, hb⟩
  have h := Pl.sOk_told (Pl.apsOut_ok ⟨t, j, g, c, k⟩ l)
  exact ⟨_, _, _, _, _, _, he, h.1, h.2.2.1, h.2.2.2.1, h.2.2.2.2.1, by omega, hb⟩

theorem St.setK {w : World} {b : Nat} {t : ByteArray} {j g : Bool} {c k : Int} (h : St w b ⟨t, j, g, c, k⟩) (x : Int) : St (w.setCell ⟨b, 4, none⟩ (.int .i64 x)) b ⟨t, j, g, c, x⟩ := by
  obtain ⟨c0, c1, c2, c3, c4, hf⟩ := h
  have hf : ∀ i, w.frozen? ⟨b, i, none⟩ = false := hf
  dsimp only at c0 c1 c2 c3 c4
  refine ⟨?_, ?_, ?_, ?_, ?_, fun i => ?_⟩
  all_goals simp [go_sem, *]
theorem St.setC {w : World} {b : Nat} {t : ByteArray} {j g : Bool} {c k : Int} (h : St w b ⟨t, j, g, c, k⟩) (x : Int) : St (w.setCell ⟨b, 3, none⟩ (.int .i64 x)) b ⟨t, j, g, x, k⟩ := by
  obtain ⟨c0, c1, c2, c3, c4, hf⟩ := h
  have hf : ∀ i, w.frozen? ⟨b, i, none⟩ = false := hf
  dsimp only at c0 c1 c2 c3 c4
  refine ⟨?_, ?_, ?_, ?_, ?_, fun i => ?_⟩
  all_goals simp [go_sem, *]
def txtSz (w : World) (R : Nat) : Nat := match w.cell? ⟨R, 0, none⟩ with | some (.string b) => b.size | _ => 0
theorem St.txt {w : World} {R : Nat} {s : Pl.Sta} (h : St w R s) : txtSz w R = s.t.size := by unfold txtSz; rw [h.1]

end Go.Proofs.Ytkbbcmbeafjpaab
