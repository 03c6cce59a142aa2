/-
  CONTRACTS: impl.ParseAtom.
-/
import Derived.Test.YtfjdbchffhbidaaDoorTrans2
namespace Go.Proofs.YtfjdbchffhbidaaDoor
open Go.RowKit

theorem Pl.trimW_size (s : ByteArray) : (Pl.trimW s).size ≤ s.size := by
  have h1 : ∀ l cs : List UInt8, (Lib.trimLeftS l cs).length ≤ l.length := fun l cs => (List.dropWhile_sublist _).length_le
  have h2 : ∀ l cs : List UInt8, (Lib.trimRightS l cs).length ≤ l.length := fun l cs => by
    unfold Lib.trimRightS
    rw [List.length_reverse]
    have := (List.dropWhile_sublist (p := (cs.contains ·)) (l := l.reverse)).length_le
    rwa [List.length_reverse] at this
  have h3 : (Pl.trimW s).size = (Lib.trimS s.data.toList [123, 125, 94, 38]).length := by unfold Pl.trimW; exact List.size_toArray
  rw [h3, Pl.ba_size]
  exact Nat.le_trans (h1 _ _) (h2 _ _)
theorem trim_any (s : ByteArray) (w : World) (hs : s.size ≤ 1048576) :
    Calls Tryd.prog 137 #[.string s, .string ⟨#[123, 125, 94, 38]⟩] w fun e w' => e = .returned (.string (Pl.trimW s)) ∧ Below w.heap.size w w' :=
  Any.strings_Trim_laid Tryd.lays160 (by kernel_rfl) s ⟨#[123, 125, 94, 38]⟩ w (by omega) (by decide) (ascii_of_all (by decide))

/-- an atom's block as it was made -/
def FreshA (w : World) (B : Nat) : Prop := w.cell? ⟨B, 0, none⟩ = some (.int .i64 0) ∧ w.cell? ⟨B, 1, none⟩ = some (.string ⟨#[]⟩) ∧ ∀ i, w.frozen? ⟨B, i, none⟩ = false
theorem FreshA.made (w : World) (T : TypeId) : FreshA (w.alloc (.cells #[.int .i64 0, .string ⟨#[]⟩] T)) w.heap.size := by
  refine ⟨by simp [go_sem], by simp [go_sem], fun i => by simp [go_sem]⟩
theorem FreshA.keep {w w' : World} {B : Nat} (h : FreshA w B) (hb : Below w.heap.size w w') : FreshA w' B :=
  ⟨keepcT hb h.1, keepcT hb h.2.1, fun i => ((bcell hb).2 B i (World.block_lt_of_cell? _ _ h.1)).trans (h.2.2 i)⟩
/-- none of the first kinds fits -/
def NoHit (s t : ByteArray) (k : Nat) : Prop := ∀ j : Nat, 1 ≤ j → j < k → Pl.hit s j t = false ∧ Pl.hit s j ⟨#[]⟩ = false
theorem noHit_next {s t : ByteArray} {k : Nat} (h : NoHit s t k) (h1 : Pl.hit s k t = false) (h2 : Pl.hit s k ⟨#[]⟩ = false) : NoHit s t (k + 1) := by
  intro j hj hk
  by_cases e : j = k
  · subst e; exact ⟨h1, h2⟩
  · exact h j hj (by omega)
theorem hit_no1 {s y : ByteArray} {a : Int} (h : Pl.atomOk a y = false) : Pl.hit s a y = false := by unfold Pl.hit; rw [h]; rfl
theorem hit_no2 {s y : ByteArray} {a : Int} (h : ((Pl.fmtA a y).toList == s.toList) = false) : Pl.hit s a y = false := by unfold Pl.hit; rw [h, Bool.and_false]
theorem hit_of {s y : ByteArray} {a : Int} (h : Pl.atomOk a y = true) (h2 : ((Pl.fmtA a y).toList == s.toList) = true) : Pl.hit s a y = true := by unfold Pl.hit; rw [h, h2]; rfl
theorem below_on3 {w X Y : World} (h : Below w.heap.size w X) (hb : Below X.heap.size X Y) : Below w.heap.size w Y := h.trans (hb.mono h.size)

set_option maxRecDepth 20000 in
set_option maxHeartbeats 3200000 in
theorem ParseAtom_any (s : ByteArray) (w : World) (hs : s.size ≤ 1048576) :
    Calls Tryd.prog 112 #[.string s] w fun e w' => e = .returned (.tuple #[.agg #[.int .i64 (Pl.parseA s).1, .string (Pl.parseA s).2], .bool (Pl.parseOk s)]) ∧ Below w.heap.size w w' := by
  have HF0 := Lib.hid (FreshA.made w 143)
  have HB0 := Lib.hid (Joins.below_alloc1 w (.cells #[.int .i64 0, .string ⟨#[]⟩] 143))
  have HT := Lib.hid (fun W => trim_any s W hs)
  have ht := Nat.le_trans (Pl.trimW_size s) hs
  have HN0 := Lib.hid (fun h => Pl.parse_no (s := s) h)
  generalize Pl.trimW s = t at HT ht HN0
  by_cases hz : 24 < s.size
  · have E := Lib.hid (Pl.parse_long hz)
    have E2 := Lib.hid (show Pl.parseA s = (0, ⟨#[]⟩) by unfold Pl.parseA; rw [E.out]; rfl)
    go_enter Tryd.func112, Tryd.ntmps112
    go_wp2_with (go_at_call 137; (with_reducible refine (HT.out _).mono ?_); rintro e w1 ⟨rfl, hb1⟩; obtain ⟨q0, q1, q2⟩ := HF0.out.keep hb1; have q20 := q2 0; have q21 := q2 1; clear q2; have B1 := below_on3 HB0.out hb1; clear hb1)
    exact bodyPost_ret (v := .tuple #[.agg #[.int .i64 0, .string ⟨#[]⟩], .bool false]) (by simp [results, Tryd.results112, go_sem, *]) rfl ⟨ret_atomb E2.out E.out rfl rfl, (by repeat (first | with_reducible exact Below.refl _ _ | with_reducible assumption | with_reducible refine Below.alloc ?_ ?_ _ | with_reducible refine Below.setCell ?_ ?_ _ | with_reducible refine Below.drew ?_ | with_reducible refine below_drewN ?_ _ | with_reducible refine Below.trans ?_ (Below.mono (by assumption) ?_) | omega | ((repeat (first | rw [World.size_alloc] | rw [size_setCell] | rw [size_drewN] | rw [size_drew])); omega) | exact Nat.le_refl _ | (dsimp only; omega) | (simp [World.setCell]; omega)))⟩
  go_enter Tryd.func112, Tryd.ntmps112
  go_wp2_with (go_at_call 137; (with_reducible refine (HT.out _).mono ?_); rintro e w1 ⟨rfl, hb1⟩; have HF1 := Lib.hid (HF0.out.keep hb1); have HB1 := Lib.hid (below_on3 HB0.out hb1); clear hb1)
  go_loopw [5] (fun i wr => ∃ k : Nat, 1 ≤ k ∧ k ≤ 11 ∧ i = .int .i64 k ∧ Hid (NoHit s t k) ∧ FreshA wr w.heap.size ∧ Below w.heap.size w wr) (fun i _ => 11 - (intOf i).toNat)
  case atStart => exact ⟨1, by omega, by omega, rfl, Lib.hid (fun j h1 h2 => by omega), HF1.out, HB1.out⟩
  case round =>
    obtain ⟨k, hk1, hk2, rfl, HNo, hf, hb⟩ := hrel
    obtain ⟨wo, rfl⟩ : ∃ wo : World, wo = wr := ⟨_, rfl⟩
    have HF := Lib.hid (hf.keep (Joins.below_alloc1 wo (.cells #[.int .i64 (k : Int), .string t, .int .i64 (k : Int), .string ⟨#[]⟩] 143)))
    have HB := Lib.hid hb
    have hlo := World.block_lt_of_cell? _ _ hf.1
    have HFo := Lib.hid hf
    clear hf hb HF1 HB1 HF0 HB0 HT
    by_cases hlt : k < 11
    · have hki : (k : Int) ≤ 10 := by omega
      go_wp2
      go_loopw [27] (fun i wi => ∃ j : Nat, j ≤ 2 ∧ i = .int .i64 j ∧ Hid (1 ≤ j → Pl.hit s k t = false) ∧ Hid (2 ≤ j → Pl.hit s k ⟨#[]⟩ = false) ∧ Below (wo.heap.size + 1) (wo.alloc (.cells #[.int .i64 (k : Int), .string t, .int .i64 (k : Int), .string ⟨#[]⟩] 143)) wi) (fun i _ => 2 - (intOf i).toNat)
      case atStart => exact ⟨0, by omega, rfl, Lib.hid (by omega), Lib.hid (by omega), Below.refl _ _⟩
      case round =>
        obtain ⟨j, hj, rfl, HX, HY, hbi⟩ := hrel
        obtain ⟨wi, rfl⟩ : ∃ wi : World, wi = wr := ⟨_, rfl⟩
        have HI := Lib.hid (show Below (wo.alloc (.cells #[.int .i64 (k : Int), .string t, .int .i64 (k : Int), .string ⟨#[]⟩] 143)).heap.size _ wi by rw [World.size_alloc]; exact hbi)
        clear hbi
        by_cases hlt2 : j < 2
        · rcases (show j = 0 ∨ j = 1 by omega) with rfl | rfl
          · have c1 : wi.cell? ⟨wo.heap.size, 0, none⟩ = some (.int .i64 (k : Int)) := keepcT HI.out (by simp [go_sem])
            have c2 : wi.cell? ⟨wo.heap.size, 1, none⟩ = some (.string t) := keepcT HI.out (by simp [go_sem])
            cases h1 : Pl.atomOk k t
            · have HN := Lib.hid (hit_no1 (s := s) h1)
              go_wp2_with (go_at_call 138; (with_reducible refine (FormatAtom_no _ _ _ (by first | exact ht | decide) h1).mono ?_); rintro e w2 ⟨rfl, hb2⟩; have HB2 := Lib.hid (below_on3 (below_on3 HI.out (Joins.below_alloc1 wi _)) hb2); clear hb2)
              go_roundw
              case rel => exact ⟨1, by omega, rfl, Lib.hid (fun _ => HN.out), Lib.hid (by omega), by have h := HB2.out; rwa [World.size_alloc] at h⟩
              case measure => simp [intOf]
            · cases h2 : ((Pl.fmtA k t).toList == s.toList)
              · have HN := Lib.hid (hit_no2 (a := (k : Int)) (y := t) (s := s) h2)
                go_wp2_with (go_at_call 138; (with_reducible refine (FormatAtom_yes _ _ _ (by first | exact ht | decide) h1).mono ?_); rintro e w2 ⟨rfl, hb2⟩; have HB2 := Lib.hid (below_on3 (below_on3 HI.out (Joins.below_alloc1 wi _)) hb2); clear hb2)
                go_roundw
                case rel => exact ⟨1, by omega, rfl, Lib.hid (fun _ => HN.out), Lib.hid (by omega), by have h := HB2.out; rwa [World.size_alloc] at h⟩
                case measure => simp [intOf]
              · obtain ⟨hp1, hp2⟩ := Pl.hit_parse (hit_of (a := (k : Int)) h1 h2)
                have HP1 := Lib.hid hp1; have HP2 := Lib.hid hp2
                clear hp1 hp2
                go_wp2_with (go_at_call 138; (with_reducible refine (FormatAtom_yes _ _ _ (by first | exact ht | decide) h1).mono ?_); rintro e w2 ⟨rfl, hb2⟩; have d0 : w2.cell? ⟨wi.heap.size, 0, none⟩ = some (.int .i64 (k : Int)) := keepcT hb2 (by simp [go_sem]); have d1 : w2.cell? ⟨wi.heap.size, 1, none⟩ = some (.string t) := keepcT hb2 (by simp [go_sem]); have HB2 := Lib.hid (below_on3 (below_on3 HI.out (Joins.below_alloc1 wi _)) hb2); clear hb2; obtain ⟨q0, q1, q2⟩ := HF.out.keep HB2.out; have q20 := q2 0; have q21 := q2 1; clear q2)
                have B9 := below_on3 HB.out (below_on3 (Joins.below_alloc1 wo _) HB2.out)
                have B8 := Nat.lt_of_lt_of_le hlo (Nat.le_trans (Joins.below_alloc1 wo _).size HB2.out.size)
                exact bodyPost_ret (v := .tuple #[.agg #[.int .i64 (k : Int), .string t], .bool true]) (by simp [results, Tryd.results112, go_sem, *]) rfl ⟨ret_atomb HP2.out HP1.out rfl rfl, (by repeat (first | with_reducible exact Below.refl _ _ | with_reducible assumption | with_reducible refine Below.alloc ?_ ?_ _ | with_reducible refine Below.setCell ?_ ?_ _ | with_reducible refine Below.drew ?_ | with_reducible refine below_drewN ?_ _ | with_reducible refine Below.trans ?_ (Below.mono (by assumption) ?_) | omega | ((repeat (first | rw [World.size_alloc] | rw [size_setCell] | rw [size_drewN] | rw [size_drew])); omega) | exact Nat.le_refl _ | (dsimp only; omega) | (simp [World.setCell]; omega)))⟩
          · have c1 : wi.cell? ⟨wo.heap.size, 2, none⟩ = some (.int .i64 (k : Int)) := keepcT HI.out (by simp [go_sem])
            have c2 : wi.cell? ⟨wo.heap.size, 3, none⟩ = some (.string (⟨#[]⟩ : ByteArray)) := keepcT HI.out (by simp [go_sem])
            cases h1 : Pl.atomOk k (⟨#[]⟩ : ByteArray)
            · have HN := Lib.hid (hit_no1 (s := s) h1)
              go_wp2_with (go_at_call 138; (with_reducible refine (FormatAtom_no _ _ _ (by first | exact ht | decide) h1).mono ?_); rintro e w2 ⟨rfl, hb2⟩; have HB2 := Lib.hid (below_on3 (below_on3 HI.out (Joins.below_alloc1 wi _)) hb2); clear hb2)
              go_roundw
              case rel => exact ⟨2, by omega, rfl, Lib.hid (fun _ => HX.out (Nat.le_refl _)), Lib.hid (fun _ => HN.out), by have h := HB2.out; rwa [World.size_alloc] at h⟩
              case measure => simp [intOf]
            · cases h2 : ((Pl.fmtA k (⟨#[]⟩ : ByteArray)).toList == s.toList)
              · have HN := Lib.hid (hit_no2 (a := (k : Int)) (y := (⟨#[]⟩ : ByteArray)) (s := s) h2)
                go_wp2_with (go_at_call 138; (with_reducible refine (FormatAtom_yes _ _ _ (by first | exact ht | decide) h1).mono ?_); rintro e w2 ⟨rfl, hb2⟩; have HB2 := Lib.hid (below_on3 (below_on3 HI.out (Joins.below_alloc1 wi _)) hb2); clear hb2)
                go_roundw
                case rel => exact ⟨2, by omega, rfl, Lib.hid (fun _ => HX.out (Nat.le_refl _)), Lib.hid (fun _ => HN.out), by have h := HB2.out; rwa [World.size_alloc] at h⟩
                case measure => simp [intOf]
              · obtain ⟨hp1, hp2⟩ := Pl.hit_parse (hit_of (a := (k : Int)) h1 h2)
                have HP1 := Lib.hid hp1; have HP2 := Lib.hid hp2
                clear hp1 hp2
                go_wp2_with (go_at_call 138; (with_reducible refine (FormatAtom_yes _ _ _ (by first | exact ht | decide) h1).mono ?_); rintro e w2 ⟨rfl, hb2⟩; have d0 : w2.cell? ⟨wi.heap.size, 0, none⟩ = some (.int .i64 (k : Int)) := keepcT hb2 (by simp [go_sem]); have d1 : w2.cell? ⟨wi.heap.size, 1, none⟩ = some (.string (⟨#[]⟩ : ByteArray)) := keepcT hb2 (by simp [go_sem]); have HB2 := Lib.hid (below_on3 (below_on3 HI.out (Joins.below_alloc1 wi _)) hb2); clear hb2; obtain ⟨q0, q1, q2⟩ := HF.out.keep HB2.out; have q20 := q2 0; have q21 := q2 1; clear q2)
                have B9 := below_on3 HB.out (below_on3 (Joins.below_alloc1 wo _) HB2.out)
                have B8 := Nat.lt_of_lt_of_le hlo (Nat.le_trans (Joins.below_alloc1 wo _).size HB2.out.size)
                exact bodyPost_ret (v := .tuple #[.agg #[.int .i64 (k : Int), .string (⟨#[]⟩ : ByteArray)], .bool true]) (by simp [results, Tryd.results112, go_sem, *]) rfl ⟨ret_atomb HP2.out HP1.out rfl rfl, (by repeat (first | with_reducible exact Below.refl _ _ | with_reducible assumption | with_reducible refine Below.alloc ?_ ?_ _ | with_reducible refine Below.setCell ?_ ?_ _ | with_reducible refine Below.drew ?_ | with_reducible refine below_drewN ?_ _ | with_reducible refine Below.trans ?_ (Below.mono (by assumption) ?_) | omega | ((repeat (first | rw [World.size_alloc] | rw [size_setCell] | rw [size_drewN] | rw [size_drew])); omega) | exact Nat.le_refl _ | (dsimp only; omega) | (simp [World.setCell]; omega)))⟩
        · obtain rfl : j = 2 := by omega
          have HQ := Lib.hid (noHit_next HNo.out (HX.out (by omega)) (HY.out (by omega)))
          go_wp2
          go_roundw
          case rel => exact ⟨k + 1, by omega, by omega, by go_num, HQ, HF.out.keep HI.out, below_on3 HB.out (below_on3 (Joins.below_alloc1 wo _) HI.out)⟩
          case measure => simp [intOf]; omega
    · obtain rfl : k = 11 := by omega
      have E := Lib.hid (HN0.out (fun j h1 h2 => HNo.out j h1 (by omega)))
      have E2 := Lib.hid (show Pl.parseA s = (0, ⟨#[]⟩) by unfold Pl.parseA; rw [E.out]; rfl)
      obtain ⟨q0, q1, q2⟩ := HFo.out
      have q20 := q2 0; have q21 := q2 1
      clear q2
      have B9 := HB.out
      go_wp2
      exact bodyPost_ret (v := .tuple #[.agg #[.int .i64 0, .string ⟨#[]⟩], .bool false]) (by simp [results, Tryd.results112, go_sem, *]) rfl ⟨ret_atomb E2.out E.out rfl rfl, (by repeat (first | with_reducible exact Below.refl _ _ | with_reducible assumption | with_reducible refine Below.alloc ?_ ?_ _ | with_reducible refine Below.setCell ?_ ?_ _ | with_reducible refine Below.drew ?_ | with_reducible refine below_drewN ?_ _ | with_reducible refine Below.trans ?_ (Below.mono (by assumption) ?_) | omega | ((repeat (first | rw [World.size_alloc] | rw [size_setCell] | rw [size_drewN] | rw [size_drew])); omega) | exact Nat.le_refl _ | (dsimp only; omega) | (simp [World.setCell]; omega)))⟩

end Go.Proofs.YtfjdbchffhbidaaDoor
