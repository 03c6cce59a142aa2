/-
  CONTRACTS: impl.SplitSuffix, the walk.
-/
import Derived.Test.YtfjdbchffhbidaaSpImpl
import Derived.Test.YtfjdbchffhbidaaPlainAtom
set_option linter.unusedSimpArgs false
namespace Go.Proofs.Ytfjdbchffhbidaa
open Go.RowKit

/-- the candidates after k of the three ends -/
def Pl.candsTo (s t : ByteArray) : Nat → List ByteArray
  | 0 => Pl.stems s t
  | 1 => Pl.stems s t ++ Pl.extra s Pl.e_ies Pl.e_y
  | 2 => Pl.stems s t ++ Pl.extra s Pl.e_ies Pl.e_y ++ Pl.extra s Pl.e_es ⟨#[]⟩
  | _ => Pl.cands s t
theorem Pl.extra_len (s e y : ByteArray) : (Pl.extra s e y).length ≤ 1 := by unfold Pl.extra; split <;> simp
theorem Pl.stems_len (s t : ByteArray) : (Pl.stems s t).length ≤ 4 := by unfold Pl.stems; repeat' split
                                                                         all_goals simp
theorem Pl.candsTo_len (s t : ByteArray) (k : Nat) : (Pl.candsTo s t k).length ≤ 7 := by
  have h0 := Pl.stems_len s t
  have h1 := Pl.extra_len s Pl.e_ies Pl.e_y
  have h2 := Pl.extra_len s Pl.e_es ⟨#[]⟩
  have h3 := Pl.extra_len s Pl.e_ying Pl.e_ie
  unfold Pl.candsTo Pl.cands
  split
  · omega
  · rw [List.length_append]; omega
  · rw [List.length_append, List.length_append]; omega
  · rw [List.length_append, List.length_append, List.length_append]; omega

/-- a row of texts and another kind of block are two -/
theorem row_other {w : World} {base b : Nat} {v : Value} {n : Nat} {xs : List Value} {cs : Array Value} (h : w.ownsRow base 9 1 v n xs) (hb : w.heap[b]? = some (.cells cs 61)) : v.ownBlock ≠ some b := by
  rcases h.2 with ⟨rfl, _⟩ | ⟨g, cap, cur, rfl, h2, hg, _⟩
  · simp [Value.ownBlock]
  · intro e
    simp only [Value.ownBlock, Option.some.injEq] at e
    subst e
    rw [hg] at hb
    simp at hb
theorem block_keep {w w' : World} {b : Nat} {o : Obj} (hb : w.heap[b]? = some o) (h : Below w.heap.size w w') : w'.heap[b]? = some o := by
  have : b < w.heap.size := by
    rcases Nat.lt_or_ge b w.heap.size with h' | h'
    · exact h'
    · rw [Array.getElem?_eq_none h'] at hb; cases hb
  rw [h.block b this]; exact hb

/-- the two texts that the closure holds, behind the call's start -/
theorem cut_cells (w : World) (s t : ByteArray) (E : TypeId) : ((w.alloc (.cells #[.string s] E)).alloc (.cells #[.string t] E)).cell? ⟨w.heap.size, 0, none⟩ = some (.string s) ∧ ((w.alloc (.cells #[.string s] E)).alloc (.cells #[.string t] E)).cell? ⟨w.heap.size + 1, 0, none⟩ = some (.string t) := by
  constructor
  · simp [go_sem]
  · simp [go_sem]

theorem str_news2 (w : World) (x : ByteArray) (E : TypeId) (b : Nat) (hb : b = w.heap.size) : ∀ j u, (strs [x])[j]? = some u → (w.alloc (.cells #[.string x] E)).cell? ((⟨b, 0, none⟩ : Addr).add j) = some u := by
  subst hb; exact str_news w x E
theorem Pl.extra_yes {s e y : ByteArray} (h : Pl.endsB s e = true) : Pl.extra s e y = [Pl.chop s e.size ++ y] := by unfold Pl.extra; rw [if_pos h]
theorem Pl.extra_no {s e y : ByteArray} (h : Pl.endsB s e = false) : Pl.extra s e y = [] := by unfold Pl.extra; rw [if_neg (by rw [h]; decide)]
theorem OwnS.keepA {w w' : World} {base : Nat} {v : Value} {l : List ByteArray} (h : OwnS w base v l) (hb : Below w.heap.size w w') : OwnS w' base v l := by
  obtain ⟨⟨g, cap, h1, h2, h3, h4⟩, h5⟩ := h
  exact ⟨⟨g, cap, h1, h2, h3, Nat.lt_of_lt_of_le h4 hb.size⟩, own_keep h5 hb⟩
theorem compact_own2 (g cap base n : Nat) (l : List ByteArray) (hn : l.length = n) (w : World) (h : w.ownsRow base 9 1 (.slice (some ⟨g, 0, none⟩) l.length cap) l.length (strs l)) (hl : l.length ≤ 1000) :
    Calls Try.prog 41 #[.slice (some ⟨g, 0, none⟩) n cap] w fun e w' => e = .returned (.slice (some ⟨g, 0, none⟩) (Pl.compB l).length cap) ∧ w'.ownsRow base 9 1 (.slice (some ⟨g, 0, none⟩) (Pl.compB l).length cap) (Pl.compB l).length (strs (Pl.compB l)) ∧ w.grownBy w' (some g) := by
  subst hn; exact compact_own g cap base l w h hl
theorem own_at {w : World} {base g cap n : Nat} {e : TypeId} {l : List ByteArray} (hn : l.length = n) (h : w.ownsRow base e 1 (.slice (some ⟨g, 0, none⟩) n cap) n (strs l)) : w.ownsRow base e 1 (.slice (some ⟨g, 0, none⟩) l.length cap) l.length (strs l) := by
  subst hn; exact h
theorem row_start (w : World) (a b : Obj) : (((w.alloc a).alloc b).alloc (.cells #[] 9)).ownsRow (w.heap.size + 1 + 1) 9 1 (.slice (some ⟨w.heap.size + 1 + 1, 0, none⟩) 0 0) 0 [] := by
  have h := World.ownsRow_made (base := w.heap.size + 1 + 1) (e := 9) (size := 1) ((w.alloc a).alloc b) #[] 0 (by simp only [World.size_alloc]; omega) (by unfold maxLen; omega) rfl
  rwa [World.size_alloc, World.size_alloc] at h
theorem two_news (w : World) (x y : ByteArray) (E : TypeId) (b : Nat) (hb : b = w.heap.size) : ∀ j u, (strs [x, y])[j]? = some u → (w.alloc (.cells #[.string x, .string y] E)).cell? ((⟨b, 0, none⟩ : Addr).add j) = some u := by
  subst hb
  intro j u hj
  rw [Addr.add_lit, Nat.zero_add, World.cell?_alloc_mark]
  simpa [strs] using hj
/-- the three ends, as they lie -/
def Six (w : World) (B : Nat) : Prop := w.heap[B]? = some (.cells #[.string ⟨#[105, 101, 115]⟩, .string ⟨#[121]⟩, .string ⟨#[101, 115]⟩, .string ⟨#[]⟩, .string ⟨#[121, 105, 110, 103]⟩, .string ⟨#[105, 101]⟩] 61)
theorem Six.cell {w : World} {B : Nat} (h : Six w B) (j : Nat) (u : Value) (hu : [Value.string ⟨#[105, 101, 115]⟩, .string ⟨#[121]⟩, .string ⟨#[101, 115]⟩, .string ⟨#[]⟩, .string ⟨#[121, 105, 110, 103]⟩, .string ⟨#[105, 101]⟩][j]? = some u) : w.cell? ⟨B, j, none⟩ = some u := by
  unfold Six at h
  rw [cell_of_row w B j _ _ (0, 0) h]
  simpa using hu
theorem Six.made (w : World) : Six (w.alloc (.cells #[.string ⟨#[105, 101, 115]⟩, .string ⟨#[121]⟩, .string ⟨#[101, 115]⟩, .string ⟨#[]⟩, .string ⟨#[121, 105, 110, 103]⟩, .string ⟨#[105, 101]⟩] 61)) w.heap.size := by
  unfold Six World.alloc
  simp
theorem grown_six {w w' : World} {B base : Nat} {v : Value} {n : Nat} {xs : List Value} (h : Six w B) (ho : w.ownsRow base 9 1 v n xs) (hg : w.grownBy w' v.ownBlock) : Six w' B := by
  unfold Six at h ⊢
  have hlt : B < w.heap.size := by
    rcases Nat.lt_or_ge B w.heap.size with h' | h'
    · exact h'
    · rw [Array.getElem?_eq_none h'] at h; cases h
  rw [hg.block B hlt (fun e => row_other ho h e.symm)]
  exact h
/-- one round is done -/
def Went (s t : ByteArray) (W0 : World) (B : Nat) (c i : Value) (wr : World) : Prop :=
  ∃ k : Nat, k ≤ 3 ∧ i = .int .i64 k ∧ OwnS wr W0.heap.size c (Pl.candsTo s t k) ∧ Below W0.heap.size W0 wr ∧ Six wr B

set_option maxRecDepth 20000 in
set_option maxHeartbeats 4000000 in
theorem SplitSuffix_any (s t : ByteArray) (w : World) (hs : s.size ≤ maxLen) (ht : t.size ≤ maxLen) :
    Calls Try.prog 9 #[.string s, .string t] w fun e w' => ∃ v', e = .returned (.tuple #[v', .bool (Pl.isWord s && Pl.isWord t)]) ∧ w'.ownsRow w.heap.size 9 1 v' (if (Pl.isWord s && Pl.isWord t) = true then Pl.splitL s t else []).length (strs (if (Pl.isWord s && Pl.isWord t) = true then Pl.splitL s t else [])) ∧ Below w.heap.size w w' := by
  have C0 := Lib.hid (cut_cells w s t 9)
  cases h1 : Pl.isWord s
  · go_enter Try.func9, Try.ntmps9
    go_wp2_with (go_at_call 11; (with_reducible refine (IsWord_any s _ hs).mono ?_); rintro e w' ⟨he, rfl⟩; rw [h1] at he; subst he)
    go_ret2
    exact ⟨_, rfl, World.ownsRow_nil _ _ _ _, (by repeat (first | with_reducible exact Below.refl _ _ | with_reducible assumption | with_reducible refine Below.alloc ?_ ?_ _ | with_reducible refine Below.setCell ?_ ?_ _ | with_reducible refine Below.drew ?_ | with_reducible refine below_drewN ?_ _ | with_reducible refine Below.trans ?_ (Below.mono (by assumption) ?_) | omega | ((repeat (first | rw [World.size_alloc] | rw [size_setCell] | rw [size_drewN] | rw [size_drew])); omega) | exact Nat.le_refl _ | (dsimp only; omega) | (simp [World.setCell]; omega)))⟩
  cases h2 : Pl.isWord t
  · go_enter Try.func9, Try.ntmps9
    go_wp2_with (first | (go_at_call 11; (with_reducible refine (IsWord_any s _ hs).mono ?_); rintro e w' ⟨he, rfl⟩; rw [h1] at he; subst he) | (go_at_call 11; (with_reducible refine (IsWord_any t _ ht).mono ?_); rintro e w' ⟨he, rfl⟩; rw [h2] at he; subst he))
    go_ret2
    exact ⟨_, rfl, World.ownsRow_nil _ _ _ _, (by repeat (first | with_reducible exact Below.refl _ _ | with_reducible assumption | with_reducible refine Below.alloc ?_ ?_ _ | with_reducible refine Below.setCell ?_ ?_ _ | with_reducible refine Below.drew ?_ | with_reducible refine below_drewN ?_ _ | with_reducible refine Below.trans ?_ (Below.mono (by assumption) ?_) | omega | ((repeat (first | rw [World.size_alloc] | rw [size_setCell] | rw [size_drewN] | rw [size_drew])); omega) | exact Nat.le_refl _ | (dsimp only; omega) | (simp [World.setCell]; omega)))⟩
  have zs := Pl.isWord_size h1
  have zt := Pl.isWord_size h2
  cases h3 : Pl.endsB s t
  · have E0 := Lib.hid (show Pl.candsTo s t 0 = [] by simp [Pl.candsTo, Pl.stems, h3])
    go_enter Try.func9, Try.ntmps9
    go_wp2_with (first | (go_at_call 11; (with_reducible refine (IsWord_any s _ hs).mono ?_); rintro e w' ⟨he, rfl⟩; rw [h1] at he; subst he) | (go_at_call 11; (with_reducible refine (IsWord_any t _ ht).mono ?_); rintro e w' ⟨he, rfl⟩; rw [h2] at he; subst he) | (go_at_call 38; (with_reducible refine (cutSuffix_no _ hs h3).mono ?_); rintro e w' ⟨rfl, rfl⟩))
    obtain ⟨W0, hW0⟩ : ∃ W0, W0 = (w.alloc (.cells #[.string s] 9)).alloc (.cells #[.string t] 9) := ⟨_, rfl⟩
    have hz0 : W0.heap.size = w.heap.size + 1 + 1 := by rw [hW0, World.size_alloc, World.size_alloc]
    have HO0 := Lib.hid (show OwnS ((W0.alloc (.cells #[] 9)).alloc (.cells #[.string ⟨#[105, 101, 115]⟩, .string ⟨#[121]⟩, .string ⟨#[101, 115]⟩, .string ⟨#[]⟩, .string ⟨#[121, 105, 110, 103]⟩, .string ⟨#[105, 101]⟩] 61)) W0.heap.size (.slice (some ⟨w.heap.size + 1 + 1, 0, none⟩) 0 0) (Pl.candsTo s t 0) by rw [E0.out, ← hz0]; exact (own_start W0).1.keepA (Joins.below_alloc1 _ _))
    have HB0 := Lib.hid (Joins.below_alloc2 W0 (.cells #[] 9) (.cells #[.string ⟨#[105, 101, 115]⟩, .string ⟨#[121]⟩, .string ⟨#[101, 115]⟩, .string ⟨#[]⟩, .string ⟨#[121, 105, 110, 103]⟩, .string ⟨#[105, 101]⟩] 61))
    have HX0 := Lib.hid (show Six ((W0.alloc (.cells #[] 9)).alloc (.cells #[.string ⟨#[105, 101, 115]⟩, .string ⟨#[121]⟩, .string ⟨#[101, 115]⟩, .string ⟨#[]⟩, .string ⟨#[121, 105, 110, 103]⟩, .string ⟨#[105, 101]⟩] 61)) (w.heap.size + 1 + 1 + 1) by have h := Six.made (W0.alloc (.cells #[] 9)); rw [World.size_alloc, hz0] at h; exact h)
    rw [← hW0]
    go_loopw [6, 56] (fun c i wr => Went s t W0 (w.heap.size + 1 + 1 + 1) c i wr) (fun _ i _ => 3 - (intOf i).toNat)
    case atStart => exact ⟨0, by omega, rfl, HO0.out, HB0.out, HX0.out⟩
    clear HO0 HB0 HX0
    case round =>
      obtain ⟨k, hk, rfl, hown, hb, hx⟩ := hrel
      have HO := Lib.hid hown; have HB := Lib.hid hb; have HX := Lib.hid hx
      clear hown hb hx
      have cs := keepc HB.out (show W0.cell? ⟨w.heap.size, 0, none⟩ = some (.string s) by rw [hW0]; exact C0.out.1)
      have hlt0 : w.heap.size < wr.heap.size := World.block_lt_of_cell? _ _ cs
      by_cases hlt : k < 3
      · rcases (show k = 0 ∨ k = 1 ∨ k = 2 by omega) with rfl | rfl | rfl
        · have c1 := HX.out.cell 0 _ rfl
          have c2 := HX.out.cell 1 _ rfl
          cases he : Pl.endsB s ⟨#[105, 101, 115]⟩
          · have HE := Lib.hid (show Pl.candsTo s t (0 + 1) = Pl.candsTo s t 0 by rw [show Pl.candsTo s t (0 + 1) = Pl.candsTo s t 0 ++ Pl.extra s (⟨#[105, 101, 115]⟩ : ByteArray) (⟨#[121]⟩ : ByteArray) from rfl, Pl.extra_no he, List.append_nil])
            go_wp2_with (go_at_call 38; (with_reducible refine (cutSuffix_no _ hs he).mono ?_); rintro e w' ⟨rfl, rfl⟩)
            go_roundw
            case rel => exact ⟨0 + 1, by omega, by go_num, by rw [HE.out]; exact HO.out.keepA (Joins.below_alloc1 _ _), HB.out.trans ((Joins.below_alloc1 _ _).mono HB.out.size), block_keep HX.out (Joins.below_alloc1 _ _)⟩
            case measure => simp [intOf]
          · have HE := Lib.hid (show Pl.candsTo s t (0 + 1) = Pl.candsTo s t 0 ++ [Pl.chop s (⟨#[105, 101, 115]⟩ : ByteArray).size ++ (⟨#[121]⟩ : ByteArray)] by rw [show Pl.candsTo s t (0 + 1) = Pl.candsTo s t 0 ++ Pl.extra s (⟨#[105, 101, 115]⟩ : ByteArray) (⟨#[121]⟩ : ByteArray) from rfl, Pl.extra_yes he])
            have HN := Lib.hid (Pl.candsTo_len s t 0)
            have zc : (Pl.chop s 3).size ≤ 24 := by rw [Pl.chop_size]; omega
            generalize Pl.candsTo s t 0 = l at HO HE HN
            go_wp2_with (first
              | (at_builtin; have hn7 := HN.out; refine app_str rfl _ _ rfl (w.heap.size + 1 + 1) _ l.length (strs l) rfl (((own_base HO.out.2 (Nat.le_of_eq hz0.symm)).alloc _).alloc _) ⟨_, 0, none⟩ 1 1 [Pl.chop s 3 ++ (⟨#[121]⟩ : ByteArray)] rfl rfl (str_news2 _ _ _ _ (by rw [World.size_alloc])) (by omega) (by have := HB.out.size; rw [World.size_alloc, World.size_alloc]; omega) ?_; intro v2 w2 hown2 hg2)
              | (go_at_call 38; (with_reducible refine (cutSuffix_yes _ hs he).mono ?_); rintro e w' ⟨rfl, rfl⟩))
            have HG := Lib.hid hg2
            have HO2 := Lib.hid hown2
            clear hown2 hg2
            go_roundw
            case rel =>
              have ho1 := ((own_base HO.out.2 (Nat.le_of_eq hz0.symm)).alloc (.cells #[.string (⟨#[105, 101, 115]⟩ : ByteArray), .string (⟨#[121]⟩ : ByteArray)] 61)).alloc (.cells #[.string (Pl.chop s (⟨#[105, 101, 115]⟩ : ByteArray).size ++ (⟨#[121]⟩ : ByteArray))] 9)
              have hb1 : Below wr.heap.size wr ((wr.alloc (.cells #[.string (⟨#[105, 101, 115]⟩ : ByteArray), .string (⟨#[121]⟩ : ByteArray)] 61)).alloc (.cells #[.string (Pl.chop s (⟨#[105, 101, 115]⟩ : ByteArray).size ++ (⟨#[121]⟩ : ByteArray))] 9)) := Joins.below_alloc2 _ _ _
              refine ⟨0 + 1, by omega, by go_num, ?_, ?_, ?_⟩
              · rw [HE.out, hz0]
                refine OwnS.of ?_ (by simp)
                have := HO2.out
                exact own_snoc this
              · exact (HB.out.trans (hb1.mono HB.out.size)).grown HG.out (Nat.le_trans HB.out.size hb1.size) (fun j hj => by rw [hz0]; exact (ho1.lt j hj).1)
              · exact grown_six (block_keep HX.out hb1) ho1 HG.out
            case measure => simp [intOf]
        · have c1 := HX.out.cell 2 _ rfl
          have c2 := HX.out.cell 3 _ rfl
          cases he : Pl.endsB s ⟨#[101, 115]⟩
          · have HE := Lib.hid (show Pl.candsTo s t (1 + 1) = Pl.candsTo s t 1 by rw [show Pl.candsTo s t (1 + 1) = Pl.candsTo s t 1 ++ Pl.extra s (⟨#[101, 115]⟩ : ByteArray) (⟨#[]⟩ : ByteArray) from rfl, Pl.extra_no he, List.append_nil])
            go_wp2_with (go_at_call 38; (with_reducible refine (cutSuffix_no _ hs he).mono ?_); rintro e w' ⟨rfl, rfl⟩)
            go_roundw
            case rel => exact ⟨1 + 1, by omega, by go_num, by rw [HE.out]; exact HO.out.keepA (Joins.below_alloc1 _ _), HB.out.trans ((Joins.below_alloc1 _ _).mono HB.out.size), block_keep HX.out (Joins.below_alloc1 _ _)⟩
            case measure => simp [intOf]
          · have HE := Lib.hid (show Pl.candsTo s t (1 + 1) = Pl.candsTo s t 1 ++ [Pl.chop s (⟨#[101, 115]⟩ : ByteArray).size ++ (⟨#[]⟩ : ByteArray)] by rw [show Pl.candsTo s t (1 + 1) = Pl.candsTo s t 1 ++ Pl.extra s (⟨#[101, 115]⟩ : ByteArray) (⟨#[]⟩ : ByteArray) from rfl, Pl.extra_yes he])
            have HN := Lib.hid (Pl.candsTo_len s t 1)
            have zc : (Pl.chop s 2).size ≤ 24 := by rw [Pl.chop_size]; omega
            generalize Pl.candsTo s t 1 = l at HO HE HN
            go_wp2_with (first
              | (at_builtin; have hn7 := HN.out; refine app_str rfl _ _ rfl (w.heap.size + 1 + 1) _ l.length (strs l) rfl (((own_base HO.out.2 (Nat.le_of_eq hz0.symm)).alloc _).alloc _) ⟨_, 0, none⟩ 1 1 [Pl.chop s 2 ++ (⟨#[]⟩ : ByteArray)] rfl rfl (str_news2 _ _ _ _ (by rw [World.size_alloc])) (by omega) (by have := HB.out.size; rw [World.size_alloc, World.size_alloc]; omega) ?_; intro v2 w2 hown2 hg2)
              | (go_at_call 38; (with_reducible refine (cutSuffix_yes _ hs he).mono ?_); rintro e w' ⟨rfl, rfl⟩))
            have HG := Lib.hid hg2
            have HO2 := Lib.hid hown2
            clear hown2 hg2
            go_roundw
            case rel =>
              have ho1 := ((own_base HO.out.2 (Nat.le_of_eq hz0.symm)).alloc (.cells #[.string (⟨#[101, 115]⟩ : ByteArray), .string (⟨#[]⟩ : ByteArray)] 61)).alloc (.cells #[.string (Pl.chop s (⟨#[101, 115]⟩ : ByteArray).size ++ (⟨#[]⟩ : ByteArray))] 9)
              have hb1 : Below wr.heap.size wr ((wr.alloc (.cells #[.string (⟨#[101, 115]⟩ : ByteArray), .string (⟨#[]⟩ : ByteArray)] 61)).alloc (.cells #[.string (Pl.chop s (⟨#[101, 115]⟩ : ByteArray).size ++ (⟨#[]⟩ : ByteArray))] 9)) := Joins.below_alloc2 _ _ _
              refine ⟨1 + 1, by omega, by go_num, ?_, ?_, ?_⟩
              · rw [HE.out, hz0]
                refine OwnS.of ?_ (by simp)
                have := HO2.out
                exact own_snoc this
              · exact (HB.out.trans (hb1.mono HB.out.size)).grown HG.out (Nat.le_trans HB.out.size hb1.size) (fun j hj => by rw [hz0]; exact (ho1.lt j hj).1)
              · exact grown_six (block_keep HX.out hb1) ho1 HG.out
            case measure => simp [intOf]
        · have c1 := HX.out.cell 4 _ rfl
          have c2 := HX.out.cell 5 _ rfl
          cases he : Pl.endsB s ⟨#[121, 105, 110, 103]⟩
          · have HE := Lib.hid (show Pl.candsTo s t (2 + 1) = Pl.candsTo s t 2 by rw [show Pl.candsTo s t (2 + 1) = Pl.candsTo s t 2 ++ Pl.extra s (⟨#[121, 105, 110, 103]⟩ : ByteArray) (⟨#[105, 101]⟩ : ByteArray) from rfl, Pl.extra_no he, List.append_nil])
            go_wp2_with (go_at_call 38; (with_reducible refine (cutSuffix_no _ hs he).mono ?_); rintro e w' ⟨rfl, rfl⟩)
            go_roundw
            case rel => exact ⟨2 + 1, by omega, by go_num, by rw [HE.out]; exact HO.out.keepA (Joins.below_alloc1 _ _), HB.out.trans ((Joins.below_alloc1 _ _).mono HB.out.size), block_keep HX.out (Joins.below_alloc1 _ _)⟩
            case measure => simp [intOf]
          · have HE := Lib.hid (show Pl.candsTo s t (2 + 1) = Pl.candsTo s t 2 ++ [Pl.chop s (⟨#[121, 105, 110, 103]⟩ : ByteArray).size ++ (⟨#[105, 101]⟩ : ByteArray)] by rw [show Pl.candsTo s t (2 + 1) = Pl.candsTo s t 2 ++ Pl.extra s (⟨#[121, 105, 110, 103]⟩ : ByteArray) (⟨#[105, 101]⟩ : ByteArray) from rfl, Pl.extra_yes he])
            have HN := Lib.hid (Pl.candsTo_len s t 2)
            have zc : (Pl.chop s 4).size ≤ 24 := by rw [Pl.chop_size]; omega
            generalize Pl.candsTo s t 2 = l at HO HE HN
            go_wp2_with (first
              | (at_builtin; have hn7 := HN.out; refine app_str rfl _ _ rfl (w.heap.size + 1 + 1) _ l.length (strs l) rfl (((own_base HO.out.2 (Nat.le_of_eq hz0.symm)).alloc _).alloc _) ⟨_, 0, none⟩ 1 1 [Pl.chop s 4 ++ (⟨#[105, 101]⟩ : ByteArray)] rfl rfl (str_news2 _ _ _ _ (by rw [World.size_alloc])) (by omega) (by have := HB.out.size; rw [World.size_alloc, World.size_alloc]; omega) ?_; intro v2 w2 hown2 hg2)
              | (go_at_call 38; (with_reducible refine (cutSuffix_yes _ hs he).mono ?_); rintro e w' ⟨rfl, rfl⟩))
            have HG := Lib.hid hg2
            have HO2 := Lib.hid hown2
            clear hown2 hg2
            go_roundw
            case rel =>
              have ho1 := ((own_base HO.out.2 (Nat.le_of_eq hz0.symm)).alloc (.cells #[.string (⟨#[121, 105, 110, 103]⟩ : ByteArray), .string (⟨#[105, 101]⟩ : ByteArray)] 61)).alloc (.cells #[.string (Pl.chop s (⟨#[121, 105, 110, 103]⟩ : ByteArray).size ++ (⟨#[105, 101]⟩ : ByteArray))] 9)
              have hb1 : Below wr.heap.size wr ((wr.alloc (.cells #[.string (⟨#[121, 105, 110, 103]⟩ : ByteArray), .string (⟨#[105, 101]⟩ : ByteArray)] 61)).alloc (.cells #[.string (Pl.chop s (⟨#[121, 105, 110, 103]⟩ : ByteArray).size ++ (⟨#[105, 101]⟩ : ByteArray))] 9)) := Joins.below_alloc2 _ _ _
              refine ⟨2 + 1, by omega, by go_num, ?_, ?_, ?_⟩
              · rw [HE.out, hz0]
                refine OwnS.of ?_ (by simp)
                have := HO2.out
                exact own_snoc this
              · exact (HB.out.trans (hb1.mono HB.out.size)).grown HG.out (Nat.le_trans HB.out.size hb1.size) (fun j hj => by rw [hz0]; exact (ho1.lt j hj).1)
              · exact grown_six (block_keep HX.out hb1) ho1 HG.out
            case measure => simp [intOf]
      · obtain rfl : k = 3 := by omega
        have HN := Lib.hid (Pl.candsTo_len s t 3)
        have HM := Lib.hid (show Pl.Asc (Pl.compB (Pl.sortB (Pl.candsTo s t 3))) ∧ ∀ x, x ∈ Pl.compB (Pl.sortB (Pl.candsTo s t 3)) ↔ x ∈ Pl.cands s t from Pl.sorted_mem _)
        generalize Pl.candsTo s t 3 = l at HO HN HM
        have HZ := Lib.hid (Pl.sortB_len l)
        have HY := Lib.hid (show (Pl.compB (Pl.sortB l)).length ≤ 7 by
          have h5 := Pl.compB_len (Pl.sortB l)
          have h6 := Lib.compact_length_le ((Pl.sortB l).map (fun b : ByteArray => b.data.toList))
          rw [List.length_map] at h6
          have h7 := HZ.out; have h8 := HN.out
          omega)
        obtain ⟨⟨g, cap, hv, hlc, hbg, hgz⟩, hown⟩ := HO.out
        subst hv
        have HR := Lib.hid hown
        clear HO hown
        go_wp2_with (first
          | (go_at_call 40; (with_reducible refine HF.out.mono ?_); rintro e w4 ⟨⟨vo, rfl, hown4⟩, hb4⟩; have HO4 := Lib.hid hown4; have HB4 := Lib.hid hb4; clear hown4 hb4)
          | (go_at_call 41; (with_reducible refine (compact_own2 g cap W0.heap.size _ (Pl.sortB l) HZ.out _ (own_at HZ.out HR2.out) (by have := HN.out; have h8 := HZ.out; omega)).mono ?_); rintro e w3 ⟨rfl, hown3, hg3⟩; have HB3 := Lib.hid (HB2.out.grown hg3 HB2.out.size (fun j hj => by cases hj; exact hbg)); have HF := Lib.hid (filterS_any (Pl.splits s t) 42 #[.pointer (some ⟨w.heap.size + 1, 0, none⟩), .pointer (some ⟨w.heap.size, 0, none⟩)] (enters_of Try.func42 (by kernel_rfl) rfl) _ _ _ (Rows.of_own hown3) (by have := HY.out; omega) (fun W x hx hb => split_fn s t x (w.heap.size + 1) w.heap.size W h1 h2 (by have := Pl.cands_size ((HM.out.2 x).1 hx); unfold maxLen; omega) (keepc hb (keepc HB3.out (show W0.cell? ⟨w.heap.size + 1, 0, none⟩ = some (.string t) by rw [hW0]; exact C0.out.2))) (keepc hb (keepc HB3.out (show W0.cell? ⟨w.heap.size, 0, none⟩ = some (.string s) by rw [hW0]; exact C0.out.1))))); clear hown3 hg3)
          | (go_at_call 39; (with_reducible refine (sort_own _ _ _ _ _ HR.out (by have := HN.out; omega)).mono ?_); rintro e w2 ⟨rfl, hown2, hg2⟩; have HR2 := Lib.hid hown2; have HB2 := Lib.hid (HB.out.grown hg2 HB.out.size (fun j hj => by cases hj; exact hbg)); clear hown2 hg2))
        go_ret2
        have hb0 : Below w.heap.size w W0 := by rw [hW0]; exact Joins.below_alloc2 _ _ _
        have hb3 := hb0.trans (HB3.out.mono hb0.size)
        refine ⟨_, rfl, ?_, hb3.trans (HB4.out.mono hb3.size)⟩
        have h := own_base HO4.out hb3.size
        rw [Pl.splitL_of HM.out.1 HM.out.2] at h
        exact h
  · have HC0 := Lib.hid (fun W => cutSuffix_yes (s := s) (p := t) W hs h3)
    have zc : (Pl.chop s t.size).size ≤ 24 := by rw [Pl.chop_size]; omega
    have E0 := Lib.hid (show Pl.candsTo s t 0 = [Pl.chop s t.size, Pl.chop s t.size ++ ⟨#[101]⟩] ++ (if 0 < (Pl.chop s t.size).size then [Pl.chop (Pl.chop s t.size) 1, Pl.chop (Pl.chop s t.size) 1 ++ ⟨#[121]⟩] else []) by simp [Pl.candsTo, Pl.stems, h3])
    have HOs := Lib.hid (row_start w (.cells #[.string s] 9) (.cells #[.string t] 9))
    have HBs := Lib.hid (show Below (w.heap.size + 1 + 1) ((w.alloc (.cells #[.string s] 9)).alloc (.cells #[.string t] 9)) (((w.alloc (.cells #[.string s] 9)).alloc (.cells #[.string t] 9)).alloc (.cells #[] 9)) by have h := Joins.below_alloc1 ((w.alloc (.cells #[.string s] 9)).alloc (.cells #[.string t] 9)) (.cells #[] 9); rw [World.size_alloc, World.size_alloc] at h; exact h)
    generalize Pl.chop s t.size = x at HC0 zc E0
    by_cases hx : 0 < x.size
    · have hx2 := Pl.some_list hx
      have hx3 : (x.toList == []) = false := by rw [beq_eq_false_iff_ne]; intro e; rw [e] at hx2; cases hx2
      rw [if_pos hx] at E0
      go_enter Try.func9, Try.ntmps9
      go_wp2_with (first | (go_at_call 11; (with_reducible refine (IsWord_any s _ hs).mono ?_); rintro e w' ⟨he, rfl⟩; rw [h1] at he; subst he) | (go_at_call 11; (with_reducible refine (IsWord_any t _ ht).mono ?_); rintro e w' ⟨he, rfl⟩; rw [h2] at he; subst he) | (go_at_call 38; (with_reducible refine (HC0.out _).mono ?_); rintro e w' ⟨rfl, rfl⟩) | (at_builtin; refine app_str rfl _ _ rfl (w.heap.size + 1 + 1) _ 0 [] rfl (HOs.out.alloc _) ⟨_, 0, none⟩ 2 2 [x, x ++ ⟨#[101]⟩] rfl rfl (two_news _ _ _ _ _ (by simp only [World.size_alloc])) (by omega) (by simp only [World.size_alloc]; omega) ?_; intro v2 w2 hown2 hg2))
      have ho2 : w2.ownsRow (w.heap.size + 1 + 1) 9 1 v2 2 (strs [x, x ++ ⟨#[101]⟩]) := hown2
      have hb2 : Below (w.heap.size + 1 + 1) ((w.alloc (.cells #[.string s] 9)).alloc (.cells #[.string t] 9)) w2 := ((HBs.out.trans ((Joins.below_alloc1 _ (.cells #[.string x, .string (x ++ ⟨#[101]⟩)] 9)).mono (by simp only [World.size_alloc]; omega)))).grown hg2 (by simp only [World.size_alloc]; omega) (fun j hj => ((HOs.out.alloc (.cells #[.string x, .string (x ++ ⟨#[101]⟩)] 9)).lt j hj).1)
      have HO2 := Lib.hid ho2; have HB2 := Lib.hid hb2
      clear hown2 hg2 ho2 hb2
      have i0 : (0 : Int) ≤ (x.size : Int) - 1 := by omega
      have i1 : (x.size : Int) - 1 ≤ (x.size : Int) := by omega
      have i2 : ((x.size : Int) - 1).toNat = x.size - 1 := by omega
      have i3 : IntKind.i64.wrap ((x.size : Int) - 1) = (x.size : Int) - 1 := IntWalk.i64_in _ (by omega)
      have i4 : (1 : Int) ≤ (x.size : Int) := by omega
      have i5 : 1 ≤ x.size := by omega
      have i6 : x.size - 1 ≤ x.size := by omega
      have i7 : (x.extract 0 (x.size - 1)).size = x.size - 1 := by rw [ByteArray.size_extract]; omega
      have i8 : ¬ 9223372036854775807 < x.size - 1 + 1 := by omega
      have i9 : ¬ 9223372036854775807 < x.size := by omega
      have i10 : x.size - 1 + 1 ≤ 9223372036854775807 := by omega
      have i11 : x.size ≤ 9223372036854775807 := by omega
      have hs2 : w.heap.size + 1 + 1 ≤ w2.heap.size := by have h := HB2.out.size; simp only [World.size_alloc] at h; exact h
      go_region_held3 (fun _ => True) (exact True.intro) (first
        | (refine step_app_str rfl (.tmp 37) (.tmp 49) rfl (w.heap.size + 1 + 1) _ 2 (strs [x, x ++ ⟨#[101]⟩]) rfl (by first | exact HO2.out | exact HO2.out.alloc _) ⟨w2.heap.size, 0, none⟩ 2 2 [Pl.chop x 1, Pl.chop x 1 ++ ⟨#[121]⟩] rfl rfl (by first | exact two_news _ _ _ _ _ rfl | exact two_news _ _ _ _ _ (by simp)) (by omega) (by exact Nat.le_trans hs2 (by first | exact Nat.le_refl _ | exact Nat.le_succ _ | (simp; done) | (simp; omega))) ?_; intro v3 w3 hown3 hg3; have HO3 := Lib.hid hown3; have HG3 := Lib.hid hg3; clear hown3 hg3))
      have hb3 : Below (w.heap.size + 1 + 1) ((w.alloc (.cells #[.string s] 9)).alloc (.cells #[.string t] 9)) w3 := ((HB2.out.trans ((Joins.below_alloc1 w2 (.cells #[.string (x.extract 0 (x.size - 1)), .string (x.extract 0 (x.size - 1) ++ ⟨#[121]⟩)] 9)).mono hs2))).drew.grown (HG3.out) (Nat.le_trans hs2 (Joins.below_alloc1 w2 _).size) (fun j hj => ((HO2.out.alloc (.cells #[.string (x.extract 0 (x.size - 1)), .string (x.extract 0 (x.size - 1) ++ ⟨#[121]⟩)] 9)).lt j hj).1)
      have HB3 := Lib.hid hb3
      clear HO2 HG3 hb3 i0 i1 i2 i3 i4 i5 i6 i7 i8 i9 i10 i11
      go_wp2
      obtain ⟨W0, hW0⟩ : ∃ W0, W0 = (w.alloc (.cells #[.string s] 9)).alloc (.cells #[.string t] 9) := ⟨_, rfl⟩
      have hz0 : W0.heap.size = w.heap.size + 1 + 1 := by rw [hW0, World.size_alloc, World.size_alloc]
      have hbX : Below W0.heap.size W0 w3 := by rw [hz0, hW0]; exact HB3.out
      have HO0 := Lib.hid (show OwnS (w3.alloc (.cells #[.string ⟨#[105, 101, 115]⟩, .string ⟨#[121]⟩, .string ⟨#[101, 115]⟩, .string ⟨#[]⟩, .string ⟨#[121, 105, 110, 103]⟩, .string ⟨#[105, 101]⟩] 61)) W0.heap.size v3 (Pl.candsTo s t 0) by rw [E0.out, hz0]; exact (OwnS.of (by have h := HO3.out; first | exact h | simpa [strs] using h) (by simp)).keepA (Joins.below_alloc1 _ _))
      have HB0 := Lib.hid (hbX.trans ((Joins.below_alloc1 w3 (.cells #[.string ⟨#[105, 101, 115]⟩, .string ⟨#[121]⟩, .string ⟨#[101, 115]⟩, .string ⟨#[]⟩, .string ⟨#[121, 105, 110, 103]⟩, .string ⟨#[105, 101]⟩] 61)).mono hbX.size))
      have HX0 := Lib.hid (Six.made w3)
      go_loopw [6, 56] (fun c i wr => Went s t W0 w3.heap.size c i wr) (fun _ i _ => 3 - (intOf i).toNat)
      case atStart => exact ⟨0, by omega, rfl, HO0.out, HB0.out, HX0.out⟩
      clear HO0 HB0 HX0
      case round =>
        obtain ⟨k, hk, rfl, hown, hb, hx⟩ := hrel
        have HO := Lib.hid hown; have HB := Lib.hid hb; have HX := Lib.hid hx
        clear hown hb hx
        have cs := keepc HB.out (show W0.cell? ⟨w.heap.size, 0, none⟩ = some (.string s) by rw [hW0]; exact C0.out.1)
        have hlt0 : w.heap.size < wr.heap.size := World.block_lt_of_cell? _ _ cs
        by_cases hlt : k < 3
        · rcases (show k = 0 ∨ k = 1 ∨ k = 2 by omega) with rfl | rfl | rfl
          · have c1 := HX.out.cell 0 _ rfl
            have c2 := HX.out.cell 1 _ rfl
            cases he : Pl.endsB s ⟨#[105, 101, 115]⟩
            · have HE := Lib.hid (show Pl.candsTo s t (0 + 1) = Pl.candsTo s t 0 by rw [show Pl.candsTo s t (0 + 1) = Pl.candsTo s t 0 ++ Pl.extra s (⟨#[105, 101, 115]⟩ : ByteArray) (⟨#[121]⟩ : ByteArray) from rfl, Pl.extra_no he, List.append_nil])
              go_wp2_with (go_at_call 38; (with_reducible refine (cutSuffix_no _ hs he).mono ?_); rintro e w' ⟨rfl, rfl⟩)
              go_roundw
              case rel => exact ⟨0 + 1, by omega, by go_num, by rw [HE.out]; exact HO.out.keepA (Joins.below_alloc1 _ _), HB.out.trans ((Joins.below_alloc1 _ _).mono HB.out.size), block_keep HX.out (Joins.below_alloc1 _ _)⟩
              case measure => simp [intOf]
            · have HE := Lib.hid (show Pl.candsTo s t (0 + 1) = Pl.candsTo s t 0 ++ [Pl.chop s (⟨#[105, 101, 115]⟩ : ByteArray).size ++ (⟨#[121]⟩ : ByteArray)] by rw [show Pl.candsTo s t (0 + 1) = Pl.candsTo s t 0 ++ Pl.extra s (⟨#[105, 101, 115]⟩ : ByteArray) (⟨#[121]⟩ : ByteArray) from rfl, Pl.extra_yes he])
              have HN := Lib.hid (Pl.candsTo_len s t 0)
              have zc : (Pl.chop s 3).size ≤ 24 := by rw [Pl.chop_size]; omega
              generalize Pl.candsTo s t 0 = l at HO HE HN
              go_wp2_with (first
                | (at_builtin; have hn7 := HN.out; refine app_str rfl _ _ rfl (w.heap.size + 1 + 1) _ l.length (strs l) rfl (((own_base HO.out.2 (Nat.le_of_eq hz0.symm)).alloc _).alloc _) ⟨_, 0, none⟩ 1 1 [Pl.chop s 3 ++ (⟨#[121]⟩ : ByteArray)] rfl rfl (str_news2 _ _ _ _ (by rw [World.size_alloc])) (by omega) (by have := HB.out.size; rw [World.size_alloc, World.size_alloc]; omega) ?_; intro v2 w2 hown2 hg2)
                | (go_at_call 38; (with_reducible refine (cutSuffix_yes _ hs he).mono ?_); rintro e w' ⟨rfl, rfl⟩))
              have HG := Lib.hid hg2
              have HO2 := Lib.hid hown2
              clear hown2 hg2
              go_roundw
              case rel =>
                have ho1 := ((own_base HO.out.2 (Nat.le_of_eq hz0.symm)).alloc (.cells #[.string (⟨#[105, 101, 115]⟩ : ByteArray), .string (⟨#[121]⟩ : ByteArray)] 61)).alloc (.cells #[.string (Pl.chop s (⟨#[105, 101, 115]⟩ : ByteArray).size ++ (⟨#[121]⟩ : ByteArray))] 9)
                have hb1 : Below wr.heap.size wr ((wr.alloc (.cells #[.string (⟨#[105, 101, 115]⟩ : ByteArray), .string (⟨#[121]⟩ : ByteArray)] 61)).alloc (.cells #[.string (Pl.chop s (⟨#[105, 101, 115]⟩ : ByteArray).size ++ (⟨#[121]⟩ : ByteArray))] 9)) := Joins.below_alloc2 _ _ _
                refine ⟨0 + 1, by omega, by go_num, ?_, ?_, ?_⟩
                · rw [HE.out, hz0]
                  refine OwnS.of ?_ (by simp)
                  have := HO2.out
                  exact own_snoc this
                · exact (HB.out.trans (hb1.mono HB.out.size)).grown HG.out (Nat.le_trans HB.out.size hb1.size) (fun j hj => by rw [hz0]; exact (ho1.lt j hj).1)
                · exact grown_six (block_keep HX.out hb1) ho1 HG.out
              case measure => simp [intOf]
          · have c1 := HX.out.cell 2 _ rfl
            have c2 := HX.out.cell 3 _ rfl
            cases he : Pl.endsB s ⟨#[101, 115]⟩
            · have HE := Lib.hid (show Pl.candsTo s t (1 + 1) = Pl.candsTo s t 1 by rw [show Pl.candsTo s t (1 + 1) = Pl.candsTo s t 1 ++ Pl.extra s (⟨#[101, 115]⟩ : ByteArray) (⟨#[]⟩ : ByteArray) from rfl, Pl.extra_no he, List.append_nil])
              go_wp2_with (go_at_call 38; (with_reducible refine (cutSuffix_no _ hs he).mono ?_); rintro e w' ⟨rfl, rfl⟩)
              go_roundw
              case rel => exact ⟨1 + 1, by omega, by go_num, by rw [HE.out]; exact HO.out.keepA (Joins.below_alloc1 _ _), HB.out.trans ((Joins.below_alloc1 _ _).mono HB.out.size), block_keep HX.out (Joins.below_alloc1 _ _)⟩
              case measure => simp [intOf]
            · have HE := Lib.hid (show Pl.candsTo s t (1 + 1) = Pl.candsTo s t 1 ++ [Pl.chop s (⟨#[101, 115]⟩ : ByteArray).size ++ (⟨#[]⟩ : ByteArray)] by rw [show Pl.candsTo s t (1 + 1) = Pl.candsTo s t 1 ++ Pl.extra s (⟨#[101, 115]⟩ : ByteArray) (⟨#[]⟩ : ByteArray) from rfl, Pl.extra_yes he])
              have HN := Lib.hid (Pl.candsTo_len s t 1)
              have zc : (Pl.chop s 2).size ≤ 24 := by rw [Pl.chop_size]; omega
              generalize Pl.candsTo s t 1 = l at HO HE HN
              go_wp2_with (first
                | (at_builtin; have hn7 := HN.out; refine app_str rfl _ _ rfl (w.heap.size + 1 + 1) _ l.length (strs l) rfl (((own_base HO.out.2 (Nat.le_of_eq hz0.symm)).alloc _).alloc _) ⟨_, 0, none⟩ 1 1 [Pl.chop s 2 ++ (⟨#[]⟩ : ByteArray)] rfl rfl (str_news2 _ _ _ _ (by rw [World.size_alloc])) (by omega) (by have := HB.out.size; rw [World.size_alloc, World.size_alloc]; omega) ?_; intro v2 w2 hown2 hg2)
                | (go_at_call 38; (with_reducible refine (cutSuffix_yes _ hs he).mono ?_); rintro e w' ⟨rfl, rfl⟩))
              have HG := Lib.hid hg2
              have HO2 := Lib.hid hown2
              clear hown2 hg2
              go_roundw
              case rel =>
                have ho1 := ((own_base HO.out.2 (Nat.le_of_eq hz0.symm)).alloc (.cells #[.string (⟨#[101, 115]⟩ : ByteArray), .string (⟨#[]⟩ : ByteArray)] 61)).alloc (.cells #[.string (Pl.chop s (⟨#[101, 115]⟩ : ByteArray).size ++ (⟨#[]⟩ : ByteArray))] 9)
                have hb1 : Below wr.heap.size wr ((wr.alloc (.cells #[.string (⟨#[101, 115]⟩ : ByteArray), .string (⟨#[]⟩ : ByteArray)] 61)).alloc (.cells #[.string (Pl.chop s (⟨#[101, 115]⟩ : ByteArray).size ++ (⟨#[]⟩ : ByteArray))] 9)) := Joins.below_alloc2 _ _ _
                refine ⟨1 + 1, by omega, by go_num, ?_, ?_, ?_⟩
                · rw [HE.out, hz0]
                  refine OwnS.of ?_ (by simp)
                  have := HO2.out
                  exact own_snoc this
                · exact (HB.out.trans (hb1.mono HB.out.size)).grown HG.out (Nat.le_trans HB.out.size hb1.size) (fun j hj => by rw [hz0]; exact (ho1.lt j hj).1)
                · exact grown_six (block_keep HX.out hb1) ho1 HG.out
              case measure => simp [intOf]
          · have c1 := HX.out.cell 4 _ rfl
            have c2 := HX.out.cell 5 _ rfl
            cases he : Pl.endsB s ⟨#[121, 105, 110, 103]⟩
            · have HE := Lib.hid (show Pl.candsTo s t (2 + 1) = Pl.candsTo s t 2 by rw [show Pl.candsTo s t (2 + 1) = Pl.candsTo s t 2 ++ Pl.extra s (⟨#[121, 105, 110, 103]⟩ : ByteArray) (⟨#[105, 101]⟩ : ByteArray) from rfl, Pl.extra_no he, List.append_nil])
              go_wp2_with (go_at_call 38; (with_reducible refine (cutSuffix_no _ hs he).mono ?_); rintro e w' ⟨rfl, rfl⟩)
              go_roundw
              case rel => exact ⟨2 + 1, by omega, by go_num, by rw [HE.out]; exact HO.out.keepA (Joins.below_alloc1 _ _), HB.out.trans ((Joins.below_alloc1 _ _).mono HB.out.size), block_keep HX.out (Joins.below_alloc1 _ _)⟩
              case measure => simp [intOf]
            · have HE := Lib.hid (show Pl.candsTo s t (2 + 1) = Pl.candsTo s t 2 ++ [Pl.chop s (⟨#[121, 105, 110, 103]⟩ : ByteArray).size ++ (⟨#[105, 101]⟩ : ByteArray)] by rw [show Pl.candsTo s t (2 + 1) = Pl.candsTo s t 2 ++ Pl.extra s (⟨#[121, 105, 110, 103]⟩ : ByteArray) (⟨#[105, 101]⟩ : ByteArray) from rfl, Pl.extra_yes he])
              have HN := Lib.hid (Pl.candsTo_len s t 2)
              have zc : (Pl.chop s 4).size ≤ 24 := by rw [Pl.chop_size]; omega
              generalize Pl.candsTo s t 2 = l at HO HE HN
              go_wp2_with (first
                | (at_builtin; have hn7 := HN.out; refine app_str rfl _ _ rfl (w.heap.size + 1 + 1) _ l.length (strs l) rfl (((own_base HO.out.2 (Nat.le_of_eq hz0.symm)).alloc _).alloc _) ⟨_, 0, none⟩ 1 1 [Pl.chop s 4 ++ (⟨#[105, 101]⟩ : ByteArray)] rfl rfl (str_news2 _ _ _ _ (by rw [World.size_alloc])) (by omega) (by have := HB.out.size; rw [World.size_alloc, World.size_alloc]; omega) ?_; intro v2 w2 hown2 hg2)
                | (go_at_call 38; (with_reducible refine (cutSuffix_yes _ hs he).mono ?_); rintro e w' ⟨rfl, rfl⟩))
              have HG := Lib.hid hg2
              have HO2 := Lib.hid hown2
              clear hown2 hg2
              go_roundw
              case rel =>
                have ho1 := ((own_base HO.out.2 (Nat.le_of_eq hz0.symm)).alloc (.cells #[.string (⟨#[121, 105, 110, 103]⟩ : ByteArray), .string (⟨#[105, 101]⟩ : ByteArray)] 61)).alloc (.cells #[.string (Pl.chop s (⟨#[121, 105, 110, 103]⟩ : ByteArray).size ++ (⟨#[105, 101]⟩ : ByteArray))] 9)
                have hb1 : Below wr.heap.size wr ((wr.alloc (.cells #[.string (⟨#[121, 105, 110, 103]⟩ : ByteArray), .string (⟨#[105, 101]⟩ : ByteArray)] 61)).alloc (.cells #[.string (Pl.chop s (⟨#[121, 105, 110, 103]⟩ : ByteArray).size ++ (⟨#[105, 101]⟩ : ByteArray))] 9)) := Joins.below_alloc2 _ _ _
                refine ⟨2 + 1, by omega, by go_num, ?_, ?_, ?_⟩
                · rw [HE.out, hz0]
                  refine OwnS.of ?_ (by simp)
                  have := HO2.out
                  exact own_snoc this
                · exact (HB.out.trans (hb1.mono HB.out.size)).grown HG.out (Nat.le_trans HB.out.size hb1.size) (fun j hj => by rw [hz0]; exact (ho1.lt j hj).1)
                · exact grown_six (block_keep HX.out hb1) ho1 HG.out
              case measure => simp [intOf]
        · obtain rfl : k = 3 := by omega
          have HN := Lib.hid (Pl.candsTo_len s t 3)
          have HM := Lib.hid (show Pl.Asc (Pl.compB (Pl.sortB (Pl.candsTo s t 3))) ∧ ∀ x, x ∈ Pl.compB (Pl.sortB (Pl.candsTo s t 3)) ↔ x ∈ Pl.cands s t from Pl.sorted_mem _)
          generalize Pl.candsTo s t 3 = l at HO HN HM
          have HZ := Lib.hid (Pl.sortB_len l)
          have HY := Lib.hid (show (Pl.compB (Pl.sortB l)).length ≤ 7 by
            have h5 := Pl.compB_len (Pl.sortB l)
            have h6 := Lib.compact_length_le ((Pl.sortB l).map (fun b : ByteArray => b.data.toList))
            rw [List.length_map] at h6
            have h7 := HZ.out; have h8 := HN.out
            omega)
          obtain ⟨⟨g, cap, hv, hlc, hbg, hgz⟩, hown⟩ := HO.out
          subst hv
          have HR := Lib.hid hown
          clear HO hown
          go_wp2_with (first
            | (go_at_call 40; (with_reducible refine HF.out.mono ?_); rintro e w4 ⟨⟨vo, rfl, hown4⟩, hb4⟩; have HO4 := Lib.hid hown4; have HB4 := Lib.hid hb4; clear hown4 hb4)
            | (go_at_call 41; (with_reducible refine (compact_own2 g cap W0.heap.size _ (Pl.sortB l) HZ.out _ (own_at HZ.out HR2.out) (by have := HN.out; have h8 := HZ.out; omega)).mono ?_); rintro e w3 ⟨rfl, hown3, hg3⟩; have HB3 := Lib.hid (HB2.out.grown hg3 HB2.out.size (fun j hj => by cases hj; exact hbg)); have HF := Lib.hid (filterS_any (Pl.splits s t) 42 #[.pointer (some ⟨w.heap.size + 1, 0, none⟩), .pointer (some ⟨w.heap.size, 0, none⟩)] (enters_of Try.func42 (by kernel_rfl) rfl) _ _ _ (Rows.of_own hown3) (by have := HY.out; omega) (fun W x hx hb => split_fn s t x (w.heap.size + 1) w.heap.size W h1 h2 (by have := Pl.cands_size ((HM.out.2 x).1 hx); unfold maxLen; omega) (keepc hb (keepc HB3.out (show W0.cell? ⟨w.heap.size + 1, 0, none⟩ = some (.string t) by rw [hW0]; exact C0.out.2))) (keepc hb (keepc HB3.out (show W0.cell? ⟨w.heap.size, 0, none⟩ = some (.string s) by rw [hW0]; exact C0.out.1))))); clear hown3 hg3)
            | (go_at_call 39; (with_reducible refine (sort_own _ _ _ _ _ HR.out (by have := HN.out; omega)).mono ?_); rintro e w2 ⟨rfl, hown2, hg2⟩; have HR2 := Lib.hid hown2; have HB2 := Lib.hid (HB.out.grown hg2 HB.out.size (fun j hj => by cases hj; exact hbg)); clear hown2 hg2))
          go_ret2
          have hb0 : Below w.heap.size w W0 := by rw [hW0]; exact Joins.below_alloc2 _ _ _
          have hb3 := hb0.trans (HB3.out.mono hb0.size)
          refine ⟨_, rfl, ?_, hb3.trans (HB4.out.mono hb3.size)⟩
          have h := own_base HO4.out hb3.size
          rw [Pl.splitL_of HM.out.1 HM.out.2] at h
          exact h
    · have hx0 : x.size = 0 := by omega
      obtain rfl := Pl.size_none hx0
      rw [if_neg hx] at E0
      go_enter Try.func9, Try.ntmps9
      go_wp2_with (first | (go_at_call 11; (with_reducible refine (IsWord_any s _ hs).mono ?_); rintro e w' ⟨he, rfl⟩; rw [h1] at he; subst he) | (go_at_call 11; (with_reducible refine (IsWord_any t _ ht).mono ?_); rintro e w' ⟨he, rfl⟩; rw [h2] at he; subst he) | (go_at_call 38; (with_reducible refine (HC0.out _).mono ?_); rintro e w' ⟨rfl, rfl⟩) | (at_builtin; refine app_str rfl _ _ rfl (w.heap.size + 1 + 1) _ 0 [] rfl (HOs.out.alloc _) ⟨_, 0, none⟩ 2 2 [⟨#[]⟩, ⟨#[101]⟩] rfl rfl (two_news _ _ _ _ _ (by simp only [World.size_alloc])) (by omega) (by simp only [World.size_alloc]; omega) ?_; intro v2 w2 hown2 hg2))
      have ho2 : w2.ownsRow (w.heap.size + 1 + 1) 9 1 v2 2 (strs [⟨#[]⟩, ⟨#[101]⟩]) := hown2
      have hb2 : Below (w.heap.size + 1 + 1) ((w.alloc (.cells #[.string s] 9)).alloc (.cells #[.string t] 9)) w2 := ((HBs.out.trans ((Joins.below_alloc1 _ (.cells #[.string ⟨#[]⟩, .string (⟨#[]⟩ ++ ⟨#[101]⟩)] 9)).mono (by simp only [World.size_alloc]; omega)))).grown hg2 (by simp only [World.size_alloc]; omega) (fun j hj => ((HOs.out.alloc (.cells #[.string ⟨#[]⟩, .string (⟨#[]⟩ ++ ⟨#[101]⟩)] 9)).lt j hj).1)
      have HO2 := Lib.hid ho2; have HB2 := Lib.hid hb2
      clear hown2 hg2 ho2 hb2
      obtain ⟨W0, hW0⟩ : ∃ W0, W0 = (w.alloc (.cells #[.string s] 9)).alloc (.cells #[.string t] 9) := ⟨_, rfl⟩
      have hz0 : W0.heap.size = w.heap.size + 1 + 1 := by rw [hW0, World.size_alloc, World.size_alloc]
      have hbX : Below W0.heap.size W0 w2 := by rw [hz0, hW0]; exact HB2.out
      have HO0 := Lib.hid (show OwnS (w2.alloc (.cells #[.string ⟨#[105, 101, 115]⟩, .string ⟨#[121]⟩, .string ⟨#[101, 115]⟩, .string ⟨#[]⟩, .string ⟨#[121, 105, 110, 103]⟩, .string ⟨#[105, 101]⟩] 61)) W0.heap.size v2 (Pl.candsTo s t 0) by rw [E0.out, hz0]; exact (OwnS.of (by have h := HO2.out; first | exact h | simpa [strs] using h) (by simp)).keepA (Joins.below_alloc1 _ _))
      have HB0 := Lib.hid (hbX.trans ((Joins.below_alloc1 w2 (.cells #[.string ⟨#[105, 101, 115]⟩, .string ⟨#[121]⟩, .string ⟨#[101, 115]⟩, .string ⟨#[]⟩, .string ⟨#[121, 105, 110, 103]⟩, .string ⟨#[105, 101]⟩] 61)).mono hbX.size))
      have HX0 := Lib.hid (Six.made w2)
      go_loopw [6, 56] (fun c i wr => Went s t W0 w2.heap.size c i wr) (fun _ i _ => 3 - (intOf i).toNat)
      case atStart => exact ⟨0, by omega, rfl, HO0.out, HB0.out, HX0.out⟩
      clear HO0 HB0 HX0
      case round =>
        obtain ⟨k, hk, rfl, hown, hb, hx⟩ := hrel
        have HO := Lib.hid hown; have HB := Lib.hid hb; have HX := Lib.hid hx
        clear hown hb hx
        have cs := keepc HB.out (show W0.cell? ⟨w.heap.size, 0, none⟩ = some (.string s) by rw [hW0]; exact C0.out.1)
        have hlt0 : w.heap.size < wr.heap.size := World.block_lt_of_cell? _ _ cs
        by_cases hlt : k < 3
        · rcases (show k = 0 ∨ k = 1 ∨ k = 2 by omega) with rfl | rfl | rfl
          · have c1 := HX.out.cell 0 _ rfl
            have c2 := HX.out.cell 1 _ rfl
            cases he : Pl.endsB s ⟨#[105, 101, 115]⟩
            · have HE := Lib.hid (show Pl.candsTo s t (0 + 1) = Pl.candsTo s t 0 by rw [show Pl.candsTo s t (0 + 1) = Pl.candsTo s t 0 ++ Pl.extra s (⟨#[105, 101, 115]⟩ : ByteArray) (⟨#[121]⟩ : ByteArray) from rfl, Pl.extra_no he, List.append_nil])
              go_wp2_with (go_at_call 38; (with_reducible refine (cutSuffix_no _ hs he).mono ?_); rintro e w' ⟨rfl, rfl⟩)
              go_roundw
              case rel => exact ⟨0 + 1, by omega, by go_num, by rw [HE.out]; exact HO.out.keepA (Joins.below_alloc1 _ _), HB.out.trans ((Joins.below_alloc1 _ _).mono HB.out.size), block_keep HX.out (Joins.below_alloc1 _ _)⟩
              case measure => simp [intOf]
            · have HE := Lib.hid (show Pl.candsTo s t (0 + 1) = Pl.candsTo s t 0 ++ [Pl.chop s (⟨#[105, 101, 115]⟩ : ByteArray).size ++ (⟨#[121]⟩ : ByteArray)] by rw [show Pl.candsTo s t (0 + 1) = Pl.candsTo s t 0 ++ Pl.extra s (⟨#[105, 101, 115]⟩ : ByteArray) (⟨#[121]⟩ : ByteArray) from rfl, Pl.extra_yes he])
              have HN := Lib.hid (Pl.candsTo_len s t 0)
              have zc : (Pl.chop s 3).size ≤ 24 := by rw [Pl.chop_size]; omega
              generalize Pl.candsTo s t 0 = l at HO HE HN
              go_wp2_with (first
                | (at_builtin; have hn7 := HN.out; refine app_str rfl _ _ rfl (w.heap.size + 1 + 1) _ l.length (strs l) rfl (((own_base HO.out.2 (Nat.le_of_eq hz0.symm)).alloc _).alloc _) ⟨_, 0, none⟩ 1 1 [Pl.chop s 3 ++ (⟨#[121]⟩ : ByteArray)] rfl rfl (str_news2 _ _ _ _ (by rw [World.size_alloc])) (by omega) (by have := HB.out.size; rw [World.size_alloc, World.size_alloc]; omega) ?_; intro v2 w2 hown2 hg2)
                | (go_at_call 38; (with_reducible refine (cutSuffix_yes _ hs he).mono ?_); rintro e w' ⟨rfl, rfl⟩))
              have HG := Lib.hid hg2
              have HO2 := Lib.hid hown2
              clear hown2 hg2
              go_roundw
              case rel =>
                have ho1 := ((own_base HO.out.2 (Nat.le_of_eq hz0.symm)).alloc (.cells #[.string (⟨#[105, 101, 115]⟩ : ByteArray), .string (⟨#[121]⟩ : ByteArray)] 61)).alloc (.cells #[.string (Pl.chop s (⟨#[105, 101, 115]⟩ : ByteArray).size ++ (⟨#[121]⟩ : ByteArray))] 9)
                have hb1 : Below wr.heap.size wr ((wr.alloc (.cells #[.string (⟨#[105, 101, 115]⟩ : ByteArray), .string (⟨#[121]⟩ : ByteArray)] 61)).alloc (.cells #[.string (Pl.chop s (⟨#[105, 101, 115]⟩ : ByteArray).size ++ (⟨#[121]⟩ : ByteArray))] 9)) := Joins.below_alloc2 _ _ _
                refine ⟨0 + 1, by omega, by go_num, ?_, ?_, ?_⟩
                · rw [HE.out, hz0]
                  refine OwnS.of ?_ (by simp)
                  have := HO2.out
                  exact own_snoc this
                · exact (HB.out.trans (hb1.mono HB.out.size)).grown HG.out (Nat.le_trans HB.out.size hb1.size) (fun j hj => by rw [hz0]; exact (ho1.lt j hj).1)
                · exact grown_six (block_keep HX.out hb1) ho1 HG.out
              case measure => simp [intOf]
          · have c1 := HX.out.cell 2 _ rfl
            have c2 := HX.out.cell 3 _ rfl
            cases he : Pl.endsB s ⟨#[101, 115]⟩
            · have HE := Lib.hid (show Pl.candsTo s t (1 + 1) = Pl.candsTo s t 1 by rw [show Pl.candsTo s t (1 + 1) = Pl.candsTo s t 1 ++ Pl.extra s (⟨#[101, 115]⟩ : ByteArray) (⟨#[]⟩ : ByteArray) from rfl, Pl.extra_no he, List.append_nil])
              go_wp2_with (go_at_call 38; (with_reducible refine (cutSuffix_no _ hs he).mono ?_); rintro e w' ⟨rfl, rfl⟩)
              go_roundw
              case rel => exact ⟨1 + 1, by omega, by go_num, by rw [HE.out]; exact HO.out.keepA (Joins.below_alloc1 _ _), HB.out.trans ((Joins.below_alloc1 _ _).mono HB.out.size), block_keep HX.out (Joins.below_alloc1 _ _)⟩
              case measure => simp [intOf]
            · have HE := Lib.hid (show Pl.candsTo s t (1 + 1) = Pl.candsTo s t 1 ++ [Pl.chop s (⟨#[101, 115]⟩ : ByteArray).size ++ (⟨#[]⟩ : ByteArray)] by rw [show Pl.candsTo s t (1 + 1) = Pl.candsTo s t 1 ++ Pl.extra s (⟨#[101, 115]⟩ : ByteArray) (⟨#[]⟩ : ByteArray) from rfl, Pl.extra_yes he])
              have HN := Lib.hid (Pl.candsTo_len s t 1)
              have zc : (Pl.chop s 2).size ≤ 24 := by rw [Pl.chop_size]; omega
              generalize Pl.candsTo s t 1 = l at HO HE HN
              go_wp2_with (first
                | (at_builtin; have hn7 := HN.out; refine app_str rfl _ _ rfl (w.heap.size + 1 + 1) _ l.length (strs l) rfl (((own_base HO.out.2 (Nat.le_of_eq hz0.symm)).alloc _).alloc _) ⟨_, 0, none⟩ 1 1 [Pl.chop s 2 ++ (⟨#[]⟩ : ByteArray)] rfl rfl (str_news2 _ _ _ _ (by rw [World.size_alloc])) (by omega) (by have := HB.out.size; rw [World.size_alloc, World.size_alloc]; omega) ?_; intro v2 w2 hown2 hg2)
                | (go_at_call 38; (with_reducible refine (cutSuffix_yes _ hs he).mono ?_); rintro e w' ⟨rfl, rfl⟩))
              have HG := Lib.hid hg2
              have HO2 := Lib.hid hown2
              clear hown2 hg2
              go_roundw
              case rel =>
                have ho1 := ((own_base HO.out.2 (Nat.le_of_eq hz0.symm)).alloc (.cells #[.string (⟨#[101, 115]⟩ : ByteArray), .string (⟨#[]⟩ : ByteArray)] 61)).alloc (.cells #[.string (Pl.chop s (⟨#[101, 115]⟩ : ByteArray).size ++ (⟨#[]⟩ : ByteArray))] 9)
                have hb1 : Below wr.heap.size wr ((wr.alloc (.cells #[.string (⟨#[101, 115]⟩ : ByteArray), .string (⟨#[]⟩ : ByteArray)] 61)).alloc (.cells #[.string (Pl.chop s (⟨#[101, 115]⟩ : ByteArray).size ++ (⟨#[]⟩ : ByteArray))] 9)) := Joins.below_alloc2 _ _ _
                refine ⟨1 + 1, by omega, by go_num, ?_, ?_, ?_⟩
                · rw [HE.out, hz0]
                  refine OwnS.of ?_ (by simp)
                  have := HO2.out
                  exact own_snoc this
                · exact (HB.out.trans (hb1.mono HB.out.size)).grown HG.out (Nat.le_trans HB.out.size hb1.size) (fun j hj => by rw [hz0]; exact (ho1.lt j hj).1)
                · exact grown_six (block_keep HX.out hb1) ho1 HG.out
              case measure => simp [intOf]
          · have c1 := HX.out.cell 4 _ rfl
            have c2 := HX.out.cell 5 _ rfl
            cases he : Pl.endsB s ⟨#[121, 105, 110, 103]⟩
            · have HE := Lib.hid (show Pl.candsTo s t (2 + 1) = Pl.candsTo s t 2 by rw [show Pl.candsTo s t (2 + 1) = Pl.candsTo s t 2 ++ Pl.extra s (⟨#[121, 105, 110, 103]⟩ : ByteArray) (⟨#[105, 101]⟩ : ByteArray) from rfl, Pl.extra_no he, List.append_nil])
              go_wp2_with (go_at_call 38; (with_reducible refine (cutSuffix_no _ hs he).mono ?_); rintro e w' ⟨rfl, rfl⟩)
              go_roundw
              case rel => exact ⟨2 + 1, by omega, by go_num, by rw [HE.out]; exact HO.out.keepA (Joins.below_alloc1 _ _), HB.out.trans ((Joins.below_alloc1 _ _).mono HB.out.size), block_keep HX.out (Joins.below_alloc1 _ _)⟩
              case measure => simp [intOf]
            · have HE := Lib.hid (show Pl.candsTo s t (2 + 1) = Pl.candsTo s t 2 ++ [Pl.chop s (⟨#[121, 105, 110, 103]⟩ : ByteArray).size ++ (⟨#[105, 101]⟩ : ByteArray)] by rw [show Pl.candsTo s t (2 + 1) = Pl.candsTo s t 2 ++ Pl.extra s (⟨#[121, 105, 110, 103]⟩ : ByteArray) (⟨#[105, 101]⟩ : ByteArray) from rfl, Pl.extra_yes he])
              have HN := Lib.hid (Pl.candsTo_len s t 2)
              have zc : (Pl.chop s 4).size ≤ 24 := by rw [Pl.chop_size]; omega
              generalize Pl.candsTo s t 2 = l at HO HE HN
              go_wp2_with (first
                | (at_builtin; have hn7 := HN.out; refine app_str rfl _ _ rfl (w.heap.size + 1 + 1) _ l.length (strs l) rfl (((own_base HO.out.2 (Nat.le_of_eq hz0.symm)).alloc _).alloc _) ⟨_, 0, none⟩ 1 1 [Pl.chop s 4 ++ (⟨#[105, 101]⟩ : ByteArray)] rfl rfl (str_news2 _ _ _ _ (by rw [World.size_alloc])) (by omega) (by have := HB.out.size; rw [World.size_alloc, World.size_alloc]; omega) ?_; intro v2 w2 hown2 hg2)
                | (go_at_call 38; (with_reducible refine (cutSuffix_yes _ hs he).mono ?_); rintro e w' ⟨rfl, rfl⟩))
              have HG := Lib.hid hg2
              have HO2 := Lib.hid hown2
              clear hown2 hg2
              go_roundw
              case rel =>
                have ho1 := ((own_base HO.out.2 (Nat.le_of_eq hz0.symm)).alloc (.cells #[.string (⟨#[121, 105, 110, 103]⟩ : ByteArray), .string (⟨#[105, 101]⟩ : ByteArray)] 61)).alloc (.cells #[.string (Pl.chop s (⟨#[121, 105, 110, 103]⟩ : ByteArray).size ++ (⟨#[105, 101]⟩ : ByteArray))] 9)
                have hb1 : Below wr.heap.size wr ((wr.alloc (.cells #[.string (⟨#[121, 105, 110, 103]⟩ : ByteArray), .string (⟨#[105, 101]⟩ : ByteArray)] 61)).alloc (.cells #[.string (Pl.chop s (⟨#[121, 105, 110, 103]⟩ : ByteArray).size ++ (⟨#[105, 101]⟩ : ByteArray))] 9)) := Joins.below_alloc2 _ _ _
                refine ⟨2 + 1, by omega, by go_num, ?_, ?_, ?_⟩
                · rw [HE.out, hz0]
                  refine OwnS.of ?_ (by simp)
                  have := HO2.out
                  exact own_snoc this
                · exact (HB.out.trans (hb1.mono HB.out.size)).grown HG.out (Nat.le_trans HB.out.size hb1.size) (fun j hj => by rw [hz0]; exact (ho1.lt j hj).1)
                · exact grown_six (block_keep HX.out hb1) ho1 HG.out
              case measure => simp [intOf]
        · obtain rfl : k = 3 := by omega
          have HN := Lib.hid (Pl.candsTo_len s t 3)
          have HM := Lib.hid (show Pl.Asc (Pl.compB (Pl.sortB (Pl.candsTo s t 3))) ∧ ∀ x, x ∈ Pl.compB (Pl.sortB (Pl.candsTo s t 3)) ↔ x ∈ Pl.cands s t from Pl.sorted_mem _)
          generalize Pl.candsTo s t 3 = l at HO HN HM
          have HZ := Lib.hid (Pl.sortB_len l)
          have HY := Lib.hid (show (Pl.compB (Pl.sortB l)).length ≤ 7 by
            have h5 := Pl.compB_len (Pl.sortB l)
            have h6 := Lib.compact_length_le ((Pl.sortB l).map (fun b : ByteArray => b.data.toList))
            rw [List.length_map] at h6
            have h7 := HZ.out; have h8 := HN.out
            omega)
          obtain ⟨⟨g, cap, hv, hlc, hbg, hgz⟩, hown⟩ := HO.out
          subst hv
          have HR := Lib.hid hown
          clear HO hown
          go_wp2_with (first
            | (go_at_call 40; (with_reducible refine HF.out.mono ?_); rintro e w4 ⟨⟨vo, rfl, hown4⟩, hb4⟩; have HO4 := Lib.hid hown4; have HB4 := Lib.hid hb4; clear hown4 hb4)
            | (go_at_call 41; (with_reducible refine (compact_own2 g cap W0.heap.size _ (Pl.sortB l) HZ.out _ (own_at HZ.out HR2.out) (by have := HN.out; have h8 := HZ.out; omega)).mono ?_); rintro e w3 ⟨rfl, hown3, hg3⟩; have HB3 := Lib.hid (HB2.out.grown hg3 HB2.out.size (fun j hj => by cases hj; exact hbg)); have HF := Lib.hid (filterS_any (Pl.splits s t) 42 #[.pointer (some ⟨w.heap.size + 1, 0, none⟩), .pointer (some ⟨w.heap.size, 0, none⟩)] (enters_of Try.func42 (by kernel_rfl) rfl) _ _ _ (Rows.of_own hown3) (by have := HY.out; omega) (fun W x hx hb => split_fn s t x (w.heap.size + 1) w.heap.size W h1 h2 (by have := Pl.cands_size ((HM.out.2 x).1 hx); unfold maxLen; omega) (keepc hb (keepc HB3.out (show W0.cell? ⟨w.heap.size + 1, 0, none⟩ = some (.string t) by rw [hW0]; exact C0.out.2))) (keepc hb (keepc HB3.out (show W0.cell? ⟨w.heap.size, 0, none⟩ = some (.string s) by rw [hW0]; exact C0.out.1))))); clear hown3 hg3)
            | (go_at_call 39; (with_reducible refine (sort_own _ _ _ _ _ HR.out (by have := HN.out; omega)).mono ?_); rintro e w2 ⟨rfl, hown2, hg2⟩; have HR2 := Lib.hid hown2; have HB2 := Lib.hid (HB.out.grown hg2 HB.out.size (fun j hj => by cases hj; exact hbg)); clear hown2 hg2))
          go_ret2
          have hb0 : Below w.heap.size w W0 := by rw [hW0]; exact Joins.below_alloc2 _ _ _
          have hb3 := hb0.trans (HB3.out.mono hb0.size)
          refine ⟨_, rfl, ?_, hb3.trans (HB4.out.mono hb3.size)⟩
          have h := own_base HO4.out hb3.size
          rw [Pl.splitL_of HM.out.1 HM.out.2] at h
          exact h

end Go.Proofs.Ytfjdbchffhbidaa
