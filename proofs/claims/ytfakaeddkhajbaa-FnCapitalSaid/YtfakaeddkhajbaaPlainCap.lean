/-
  PLAIN: what stands behind a full stop. No program is in sight.
-/
import Derived.Test.YtfakaeddkhajbaaPlainAtoms
namespace Go.Proofs.Ytfakaeddkhajbaa
namespace Pl

def dot : ByteArray := ⟨#[46]⟩
def cat : ByteArray := ⟨#[99, 97, 116]⟩
def Cat : ByteArray := ⟨#[67, 97, 116]⟩
theorem dot_ok : atomOk 6 dot = true := by
  show isStop dot = true
  rw [isStop, ba_toList]; rfl
theorem cat_ok : atomOk 1 cat = true := by decide
theorem Cat_ok : atomOk 1 Cat = true := by decide
theorem low_ok : atomOk 9 ⟨#[]⟩ = true := by
  show (inB 9 8 10 && (⟨#[]⟩ : ByteArray).toList.isEmpty) = true
  rw [ba_toList]; rfl
theorem ext_app (a b : ByteArray) : (a ++ b).extract a.size (a ++ b).size = b := by
  apply ba_ext
  rw [ba_extract, ba_append, ByteArray.size_append, ba_size a, List.drop_left' rfl]
  exact List.take_of_length_le (by rw [← ba_size, ← ba_size a]; omega)
def stopped (s : Sta) : Sta := ⟨s.t ++ dot, false, false, 1, s.k⟩
theorem ap_dot (s : Sta) : ap s 6 dot = stopped s := rfl
def named (s : Sta) : Sta := ⟨(s.t ++ dot) ++ ⟨#[32]⟩ ++ Cat, false, false, 0, (((s.t ++ dot) ++ ⟨#[32]⟩ : ByteArray).size : Nat)⟩
theorem ap_cat (s : Sta) : ap (stopped s) 1 cat = named s := rfl
def lowered (s : Sta) : Sta := ⟨s.t ++ dot, false, false, 2, s.k⟩
theorem ap_low (s : Sta) : ap (stopped s) 9 ⟨#[]⟩ = lowered s := rfl
def small (s : Sta) : Sta := ⟨(s.t ++ dot) ++ ⟨#[32]⟩ ++ cat, false, false, 0, (((s.t ++ dot) ++ ⟨#[32]⟩ : ByteArray).size : Nat)⟩
theorem ap_small (s : Sta) : ap (lowered s) 1 Cat = small s := rfl
theorem stopped_size (s : Sta) : (stopped s).t.size = s.t.size + 1 := by
  show (s.t ++ dot).size = _
  rw [ByteArray.size_append]; rfl
theorem named_size (s : Sta) : (named s).t.size = s.t.size + 5 := by
  show ((s.t ++ dot) ++ ⟨#[32]⟩ ++ Cat).size = _
  rw [ByteArray.size_append, ByteArray.size_append, ByteArray.size_append]; rfl
theorem small_size (s : Sta) : (small s).t.size = s.t.size + 5 := by
  show ((s.t ++ dot) ++ ⟨#[32]⟩ ++ cat).size = _
  rw [ByteArray.size_append, ByteArray.size_append, ByteArray.size_append]; rfl
theorem stop_yes {s : Sta} (hs : sOk s = true) (h : s.t.size + 1 ≤ 2000) : apOk s 6 dot = true ∧ apOut s 6 dot = stopped s ∧ sOk (stopped s) = true := by
  have h1 := ap_good hs dot_ok (by rw [ap_dot, stopped_size]; exact h)
  have h2 := apOk_told h1.1
  rw [ap_dot] at h1 h2
  exact ⟨h1.1, h1.2, h2.2.2.2.2⟩
theorem stop_no {s : Sta} (h : ¬ s.t.size + 1 ≤ 2000) : apOk s 6 dot = false ∧ apOut s 6 dot = nil := ap_bad3 (by rw [ap_dot, stopped_size]; exact h)
theorem cat_yes {s : Sta} (hs : sOk (stopped s) = true) (h : s.t.size + 5 ≤ 2000) : apOk (stopped s) 1 cat = true ∧ apOut (stopped s) 1 cat = named s ∧ sOk (named s) = true := by
  have h1 := ap_good hs cat_ok (by rw [ap_cat, named_size]; exact h)
  have h2 := apOk_told h1.1
  rw [ap_cat] at h1 h2
  exact ⟨h1.1, h1.2, h2.2.2.2.2⟩
theorem cat_no {s : Sta} (h : ¬ s.t.size + 5 ≤ 2000) : apOk (stopped s) 1 cat = false ∧ apOut (stopped s) 1 cat = nil := ap_bad3 (by rw [ap_cat, named_size]; exact h)
theorem low9_yes {s : Sta} (hs : sOk (stopped s) = true) (h : s.t.size + 1 ≤ 2000) : apOk (stopped s) 9 ⟨#[]⟩ = true ∧ apOut (stopped s) 9 ⟨#[]⟩ = lowered s ∧ sOk (lowered s) = true := by
  have h1 := ap_good hs low_ok (by rw [ap_low]; have := stopped_size s; exact Nat.le_trans (Nat.le_of_eq this) h)
  have h2 := apOk_told h1.1
  rw [ap_low] at h1 h2
  exact ⟨h1.1, h1.2, h2.2.2.2.2⟩
theorem small_yes {s : Sta} (hs : sOk (lowered s) = true) (h : s.t.size + 5 ≤ 2000) : apOk (lowered s) 1 Cat = true ∧ apOut (lowered s) 1 Cat = small s ∧ sOk (small s) = true := by
  have h1 := ap_good hs Cat_ok (by rw [ap_small, small_size]; exact h)
  have h2 := apOk_told h1.1
  rw [ap_small] at h1 h2
  exact ⟨h1.1, h1.2, h2.2.2.2.2⟩
theorem last_of {t : ByteArray} {c k : Int} (a b : ByteArray) (ht : t = a ++ b) (hk : k = (a.size : Nat)) (h : validState t c k = true) : lastWord t c k = b := by
  subst ht
  subst hk
  unfold lastWord
  rw [if_pos h, Int.toNat_natCast]
  exact ext_app a b
theorem named_last {s : Sta} (h : sOk (named s) = true) : lastWord (named s).t (named s).c (named s).k = Cat :=
  last_of ((s.t ++ dot) ++ ⟨#[32]⟩) Cat rfl rfl h
theorem small_last {s : Sta} (h : sOk (small s) = true) : lastWord (small s).t (small s).c (small s).k = cat :=
  last_of ((s.t ++ dot) ++ ⟨#[32]⟩) cat rfl rfl h

end Pl
end Go.Proofs.Ytfakaeddkhajbaa
