/-
  CONTRACTS: strconv.Atoi, ParseInt; strings.Cut at '+', strings.TrimPrefix of '-'; ParseEdit of the program and the reference.
-/
import Derived.Test.YtkbbcmbeafjpaabDoorReadF
import Derived.Test.YtkbbcmbeafjpaabDoorFmtE
import Derived.Lib.AtoiErrMem
import Derived.Lib.AtoiBound
import Derived.Lib.Strings
namespace Go.Proofs.YtkbbcmbeafjpaabDoor
open Go.RowKit

/-- the variable ErrSyntax of the library holds an error -/
def ErrC (w : World) : Prop := ∃ tp p, w.var? Tryd.prog "strconv.ErrSyntax" = some #[.iface tp p]
theorem Tryd.gErrS : Tryd.prog.globalNamed "strconv.ErrSyntax" = some 1 := by kernel_rfl
theorem ErrC.keep {w w' : World} (h : ErrC w) (hb : Below w.heap.size w w') : ErrC w' := by
  obtain ⟨tp, p, h⟩ := h
  exact ⟨tp, p, Joins.var_stays Tryd.gErrS h hb (Nat.le_refl _)⟩
theorem ErrC.cell {w : World} (h : ErrC w) : ∃ ev, w.cell? ⟨1, 0, none⟩ = some ev ∧ (ev = .nilIface ∨ ∃ te pe, ev = .iface te pe) := by
  obtain ⟨tp, p, h⟩ := h
  exact ⟨_, by have h0 := World.var?_cell Tryd.gErrS h 0; simpa using h0, .inr ⟨_, _, rfl⟩⟩

theorem Atoi_yes (s : ByteArray) (n : Int) (hl : s.size ≤ 18) (h : Lib.atoi s.data.toList = some n) (w : World) :
    Calls Tryd.prog 32 #[.string s] w fun e w' => e = .returned (.tuple #[.int .i64 n, .nilIface]) ∧ Below w.heap.size w w' := by
  refine (Tryd.strconv_Atoi s n hl h w).mono ?_
  rintro e w' ⟨rfl, t, rfl⟩
  exact ⟨rfl, Lib.bytesWorld_below _ _ _⟩
/-- an error, and nothing -/
def RetErr (w : World) (e : Ending) (w' : World) : Prop := (∃ (T : TypeId) (N : Nat), e = .returned (.tuple #[.int .i64 0, .iface T (.pointer (some ⟨N, 0, none⟩))])) ∧ Below w.heap.size w w'
theorem Atoi_no (s : ByteArray) (hl : s.size ≤ 18) (h : Lib.atoi s.data.toList = none) (w : World) (he : ErrC w) :
    Calls Tryd.prog 32 #[.string s] w (RetErr w) := by
  obtain ⟨ev, h1, h2⟩ := he.cell
  refine (Tryd.strconv_Atoi_err s hl h ev w h1 h2).mono ?_
  rintro e w' ⟨N, rfl, _, _, hb⟩
  exact ⟨⟨_, N, rfl⟩, hb⟩
theorem FormatInt_no (n : Int) (w : World) (h : Pl.inB n (-999999) 999999 = false) :
    Calls Tryd.prog 24 #[.int .i64 n] w fun e w' => e = .returned (.tuple #[.string ⟨#[]⟩, .bool false]) ∧ Below w.heap.size w w' := by
  have HN := Lib.hid (in_any n (-999999) 999999 w)
  rw [h] at HN
  go_enter Tryd.func24, Tryd.ntmps24
  go_wp2_with (go_at_call 34; refine HN.out.mono ?_; rintro e w' ⟨rfl, rfl⟩)
  go_ret2
  exact ⟨rfl, Below.refl _ _⟩

/-- a number, as reading tells it; new memory -/
def RetRB (s : ByteArray) (w : World) (e : Ending) (w' : World) : Prop := ∃ n y, e = .returned (.tuple #[.int .i64 n, .bool y]) ∧ Pl.RD s n y ∧ Below w.heap.size w w'

set_option maxHeartbeats 800000 in
theorem ParseInt_any (s : ByteArray) (w : World) (hs : s.size ≤ maxLen) (ht : Tab10 w) (he : ErrC w) :
    Calls Tryd.prog 20 #[.string s] w (RetRB s w) := by
  unfold maxLen at hs
  by_cases h7 : 7 < s.size
  · have HX := Lib.hid (Pl.RD.bad (s := s) (fun h => by have := (Pl.isN_told h).2.1; omega))
    have h7i : (7 : Int) < (s.size : Int) := by omega
    go_enter Tryd.func20, Tryd.ntmps20
    go_wp2
    go_ret2
    exact ⟨_, _, rfl, HX.out, Below.refl _ _⟩
  have h7i : ¬ (7 : Int) < (s.size : Int) := by omega
  have HT := Lib.hid ht
  cases ha : Lib.atoi s.data.toList with
  | none =>
    have HA := Lib.hid (Atoi_no s (by omega) ha w he)
    have HX := Lib.hid (Pl.RD.bad (s := s) (fun ⟨b, hb, e⟩ => by rw [e, Pl.atoi_num hb] at ha; cases ha))
    have HF := Lib.hid (fun W h => FormatInt_any 0 W (by omega) (by omega) h)
    go_enter Tryd.func20, Tryd.ntmps20
    go_wp2_with (first
      | (go_at_call 24; (with_reducible refine (HF.out _ (HT.out.keep HB1.out)).mono ?_); rintro e w2 ⟨rfl, hb2⟩; have HB2 := Lib.hid (HB1.out.trans (hb2.mono HB1.out.size)); clear hb2)
      | (go_at_call 32; (with_reducible refine HA.out.mono ?_); rintro e w1 ⟨⟨T, N, rfl⟩, hb1⟩; have HB1 := Lib.hid hb1; clear hb1))
    go_ret2
    exact ⟨_, _, rfl, HX.out, HB2.out⟩
  | some n =>
    have HA := Lib.hid (Atoi_yes s n (by omega) ha w)
    have HVAL := Lib.hid (fun (b : Nat) (hb : b ≤ 2000) (e : s = Pl.num (b : Int)) => show n = (b : Int) by rw [e, Pl.atoi_num hb] at ha; exact (Option.some.inj ha).symm)
    cases hin : Pl.inB n (-999999) 999999
    · have HF := Lib.hid (fun W => FormatInt_no n W hin)
      have HX := Lib.hid (Pl.RD.bad (s := s) (fun ⟨b, hb, e⟩ => by
        rw [HVAL.out b hb e] at hin
        simp [Pl.inB] at hin
        omega))
      go_enter Tryd.func20, Tryd.ntmps20
      go_wp2_with (first
        | (go_at_call 24; (with_reducible refine (HF.out _).mono ?_); rintro e w2 ⟨rfl, hb2⟩; have HB2 := Lib.hid (HB1.out.trans (hb2.mono HB1.out.size)); clear hb2)
        | (go_at_call 32; (with_reducible refine HA.out.mono ?_); rintro e w1 ⟨rfl, hb1⟩; have HB1 := Lib.hid hb1; clear hb1))
      go_ret2
      exact ⟨_, _, rfl, HX.out, HB2.out⟩
    · have hr : -999999 ≤ n ∧ n ≤ 999999 := by simp [Pl.inB] at hin; omega
      have HF := Lib.hid (fun W h => FormatInt_any n W hr.1 hr.2 h)
      obtain ⟨q, hq⟩ : ∃ q, Pl.num n = q := ⟨_, rfl⟩
      rw [hq] at HF
      have HQ := Lib.hid hq
      clear hq hin
      by_cases hqs : q = s
      · have HX := Lib.hid (show Pl.RD s n true from ⟨fun _ => (HQ.out.trans hqs).symm, fun b hb e => ⟨HVAL.out b hb e, rfl⟩, hr.1, hr.2⟩)
        subst hqs
        go_enter Tryd.func20, Tryd.ntmps20
        go_wp2_with (first
          | (go_at_call 24; (with_reducible refine (HF.out _ (HT.out.keep HB1.out)).mono ?_); rintro e w2 ⟨rfl, hb2⟩; have HB2 := Lib.hid (HB1.out.trans (hb2.mono HB1.out.size)); clear hb2)
          | (go_at_call 32; (with_reducible refine HA.out.mono ?_); rintro e w1 ⟨rfl, hb1⟩; have HB1 := Lib.hid hb1; clear hb1))
        go_ret2
        exact ⟨_, _, rfl, HX.out, HB2.out⟩
      · have hqs2 : (q.toList == s.toList) = false := text_ne hqs
        have HX := Lib.hid (Pl.RD.bad (s := s) (fun ⟨b, hb, e⟩ => hqs (by rw [← HQ.out, HVAL.out b hb e]; exact e.symm)))
        go_enter Tryd.func20, Tryd.ntmps20
        go_wp2_with (first
          | (go_at_call 24; (with_reducible refine (HF.out _ (HT.out.keep HB1.out)).mono ?_); rintro e w2 ⟨rfl, hb2⟩; have HB2 := Lib.hid (HB1.out.trans (hb2.mono HB1.out.size)); clear hb2)
          | (go_at_call 32; (with_reducible refine HA.out.mono ?_); rintro e w1 ⟨rfl, hb1⟩; have HB1 := Lib.hid hb1; clear hb1))
        go_ret2
        exact ⟨_, _, rfl, HX.out, HB2.out⟩

/-- what the cut at '+' tells of a text of an edit -/
def Pl.HK (s h t : ByteArray) : Prop := (∀ b' t', 0 ≤ b' → s = Pl.edT b' t' → h.data.toList = 45 :: (Pl.num b').data.toList ∧ t = t') ∧ h.size ≤ s.size ∧ t.size ≤ s.size
def RetCut (s : ByteArray) (w : World) (e : Ending) (w' : World) : Prop := ∃ h t f, e = .returned (.tuple #[.string h, .string t, .bool f]) ∧ Pl.HK s h t ∧ Below w.heap.size w w'
theorem CutPlus_any (s : ByteArray) (w : World) (hs : s.size ≤ 1048576) (hm : ∃ m, w.cell? ⟨0, 0, none⟩ = some (.int .i64 m)) :
    Calls Tryd.prog 19 #[.string s, .string ⟨#[43]⟩] w (RetCut s w) := by
  obtain ⟨m, hm⟩ := hm
  refine (Tryd.strings_Cut s ⟨#[43]⟩ m w (by omega) hm).mono ?_
  rintro e w' ⟨rfl, n, rfl⟩
  have hb : Below w.heap.size w (w.drewN n) := ⟨rfl, rfl, rfl, Nat.le_refl _, fun _ _ => rfl⟩
  have el : (⟨#[43]⟩ : ByteArray).data.toList = [43] := rfl
  rw [el]
  rcases Pl.plus_cases s with h | ⟨x, r, h1, h2⟩
  · rw [Pl.cut_miss h]
    exact ⟨s, ⟨#[]⟩, false, rfl, ⟨fun b' t' _ e => absurd e (Pl.edT_plus h b' t'), Nat.le_refl _, Nat.zero_le _⟩, hb⟩
  · rw [Pl.cut_hit h1 h2]
    refine ⟨x, r, true, rfl, ⟨fun b' t' h0 e => ?_, ?_, ?_⟩, hb⟩
    · rw [e, Pl.edT_list] at h1
      obtain ⟨e1, e2⟩ := Pl.cut_one_way (Pl.plus_free h0) h2 h1
      exact ⟨e1.symm, (Pl.ba_ext e2).symm⟩
    · rw [Pl.ba_size, Pl.ba_size s, h1, List.length_append]; omega
    · rw [Pl.ba_size, Pl.ba_size s, h1, List.length_append, List.length_cons]; omega
def RetTrim (h : ByteArray) (w : World) (e : Ending) (w' : World) : Prop := ∃ p, e = .returned (.string p) ∧ ((∀ z, h.data.toList = 45 :: z → p.data.toList = z) ∧ p.size ≤ h.size) ∧ w' = w
theorem TrimMinus_any (h : ByteArray) (w : World) :
    Calls Tryd.prog 21 #[.string h, .string ⟨#[45]⟩] w (RetTrim h w) := by
  refine (Tryd.strings_TrimPrefix h ⟨#[45]⟩ w).mono ?_
  rintro e w' ⟨rfl, rfl⟩
  refine ⟨_, rfl, ⟨fun z hz => ?_, ?_⟩, rfl⟩
  · rw [hz]
    show (Lib.trimPrefix (45 :: z) [45]) = z
    simp [Lib.trimPrefix, Lib.hasPrefix]
  · have := Lib.trimPrefix_le h.data.toList [45]
    show (Lib.trimPrefix h.data.toList [45]).toArray.size ≤ h.data.size
    simpa using this

end Go.Proofs.YtkbbcmbeafjpaabDoor
