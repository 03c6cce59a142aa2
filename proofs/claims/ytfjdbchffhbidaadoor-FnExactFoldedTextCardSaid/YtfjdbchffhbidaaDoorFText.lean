/-
  CONTRACTS: a text with the suffix of a fold, of the program and of the reference.
-/
import Derived.Test.YtfjdbchffhbidaaDoorTrans5
import Derived.Test.YtfjdbchffhbidaaDoorFolds
namespace Go.Proofs.YtfjdbchffhbidaaDoor
open Go.RowKit

theorem max_keep {w w' : World} (h : ∃ m, w.cell? ⟨0, 0, none⟩ = some (.int .i64 m)) (hb : Below w.heap.size w w') : ∃ m, w'.cell? ⟨0, 0, none⟩ = some (.int .i64 m) := by
  obtain ⟨m, h⟩ := h
  exact ⟨m, keepcT hb h⟩
/-- a text with the suffix of a fold -/
def Pl.foldT (t u : ByteArray) : ByteArray := t ++ ⟨#[32, 123, 94]⟩ ++ u ++ ⟨#[125]⟩
def Pl.ftOk (t u : ByteArray) : Bool := Pl.transOk t && Pl.transOk (Pl.foldT t u)
def Pl.ftOut (t u : ByteArray) : ByteArray := if Pl.ftOk t u = true then Pl.foldT t u else ⟨#[]⟩
def Pl.foldedOk (k : Int) (t u : ByteArray) : Bool := Pl.foldB k u && Pl.ftOk t u
def Pl.foldedOut (k : Int) (t u : ByteArray) : ByteArray := if Pl.foldedOk k t u = true then Pl.foldT t u else ⟨#[]⟩
theorem Pl.foldT_size (t u : ByteArray) : (Pl.foldT t u).size = t.size + u.size + 4 := by
  unfold Pl.foldT
  rw [ByteArray.size_append, ByteArray.size_append, ByteArray.size_append, show (⟨#[32, 123, 94]⟩ : ByteArray).size = 3 from rfl, show (⟨#[125]⟩ : ByteArray).size = 1 from rfl]
  omega

set_option maxHeartbeats 1600000 in
theorem l10Text_any (t : ByteArray) (k : Int) (u : ByteArray) (w : World) (ht : t.size ≤ 1048576) (hu : u.size ≤ 1048576) :
    Calls Tryd.prog 43 #[.string t, .agg #[.int .i64 k, .string u]] w fun e w' => e = .returned (.tuple #[.string (Pl.ftOut t u), .bool (Pl.ftOk t u)]) ∧ Below w.heap.size w w' := by
  have HB0 := Lib.hid (Joins.below_alloc1 w (.cells #[.int .i64 k, .string u] 27))
  have HC := Lib.hid (show (w.alloc (.cells #[.int .i64 k, .string u] 27)).cell? ⟨w.heap.size, 1, none⟩ = some (.string u) by simp [go_sem])
  have H1 := Lib.hid (fun W => l5Parse_any t W (by omega))
  have H2 := Lib.hid (fun W => l5Parse_any (t ++ ⟨#[32, 123, 94]⟩ ++ u ++ ⟨#[125]⟩) W (by have := Pl.foldT_size t u; unfold Pl.foldT at this; omega))
  have E1 := Lib.hid (show Pl.ftOk t u = (Pl.transOk t && Pl.transOk (t ++ ⟨#[32, 123, 94]⟩ ++ u ++ ⟨#[125]⟩)) from rfl)
  have E2 := Lib.hid (show Pl.ftOut t u = if Pl.ftOk t u = true then t ++ ⟨#[32, 123, 94]⟩ ++ u ++ ⟨#[125]⟩ else ⟨#[]⟩ from rfl)
  unfold Read1 at H1 H2
  generalize Pl.transOut t = o1 at H1
  generalize Pl.transOut (t ++ ⟨#[32, 123, 94]⟩ ++ u ++ ⟨#[125]⟩) = o2 at H2
  generalize Pl.transOk (t ++ ⟨#[32, 123, 94]⟩ ++ u ++ ⟨#[125]⟩) = y at H2 E1
  generalize Pl.transOk t = x at H1 E1
  cases x <;> cases y
  all_goals
    go_enter Tryd.func43, Tryd.ntmps43
    go_wp2_with (first
      | (go_at_call 80; (with_reducible refine (H1.out _).mono ?_); rintro e w1 ⟨v1, rfl, ho1, hb1⟩; obtain ⟨a1, c1, rfl⟩ := row_formA ho1; have d1 := keepcT hb1 HC.out; have HB1 := Lib.hid (below_on3 HB0.out hb1); clear ho1 hb1)
      | (go_at_call 80; (with_reducible refine (H2.out _).mono ?_); rintro e w2 ⟨v2, rfl, ho2, hb2⟩; obtain ⟨a2, c2, rfl⟩ := row_formA ho2; have HB2 := Lib.hid (below_on3 HB1.out hb2); clear ho2 hb2))
    go_ret2
    exact ⟨by rw [E2.out, E1.out]; rfl, HB2.out⟩

set_option maxHeartbeats 1600000 in
theorem specFoldedText_any (t : ByteArray) (k : Int) (u : ByteArray) (w : World) (ht : t.size ≤ 1048576) (hu : u.size ≤ 1048576) :
    Calls Tryd.prog 11 #[.string t, .agg #[.int .i64 k, .string u]] w fun e w' => e = .returned (.tuple #[.string (Pl.foldedOut k t u), .bool (Pl.foldedOk k t u)]) ∧ Below w.heap.size w w' := by
  have HB0 := Lib.hid (Joins.below_alloc1 w (.cells #[.int .i64 k, .string u] 27))
  have HC := Lib.hid (show (w.alloc (.cells #[.int .i64 k, .string u] 27)).cell? ⟨w.heap.size, 1, none⟩ = some (.string u) by simp [go_sem])
  have HC0 := Lib.hid (show (w.alloc (.cells #[.int .i64 k, .string u] 27)).cell? ⟨w.heap.size, 0, none⟩ = some (.int .i64 k) by simp [go_sem])
  have hu' : u.size ≤ maxLen := by unfold maxLen; omega
  have H1 := Lib.hid (fun W => l10Fold_any k u W hu')
  have H2 := Lib.hid (fun W => l10Text_any t k u W ht hu)
  have E1 := Lib.hid (show Pl.foldedOk k t u = (Pl.foldB k u && Pl.ftOk t u) from rfl)
  have E2 := Lib.hid (show Pl.foldedOut k t u = if Pl.foldedOk k t u = true then Pl.foldT t u else ⟨#[]⟩ from rfl)
  have E3 := Lib.hid (show Pl.ftOut t u = if Pl.ftOk t u = true then Pl.foldT t u else ⟨#[]⟩ from rfl)
  generalize Pl.ftOut t u = o at H2 E3
  generalize Pl.ftOk t u = y at H2 E1 E3
  generalize Pl.foldB k u = x at H1 E1
  cases x
  · go_enter Tryd.func11, Tryd.ntmps11
    go_wp2_with (go_at_call 42; (with_reducible refine (H1.out _).mono ?_); rintro e w1 ⟨rfl, hb1⟩; have HB1 := Lib.hid (below_on3 HB0.out hb1); clear hb1)
    go_ret2
    exact ⟨by rw [E2.out, E1.out]; rfl, HB1.out⟩
  · go_enter Tryd.func11, Tryd.ntmps11
    go_wp2_with (first
      | (go_at_call 42; (with_reducible refine (H1.out _).mono ?_); rintro e w1 ⟨rfl, hb1⟩; have d1 := keepcT hb1 HC.out; have d0 := keepcT hb1 HC0.out; have HB1 := Lib.hid (below_on3 HB0.out hb1); clear hb1)
      | (go_at_call 43; (with_reducible refine (H2.out _).mono ?_); rintro e w2 ⟨rfl, hb2⟩; have HB2 := Lib.hid (below_on3 HB1.out hb2); clear hb2))
    go_ret2
    exact ⟨ret_strb (by rw [E2.out, E1.out, Bool.true_and]; first | exact E3.out | rfl) (by rw [E1.out, Bool.true_and]), HB2.out⟩

set_option maxHeartbeats 1600000 in
theorem FoldedText_any (t : ByteArray) (k : Int) (u : ByteArray) (w : World) (ht : t.size ≤ 1048576) (hu : u.size ≤ 1048576) (hm : ∃ m, w.cell? ⟨0, 0, none⟩ = some (.int .i64 m)) :
    Calls Tryd.prog 13 #[.string t, .agg #[.int .i64 k, .string u]] w fun e w' => e = .returned (.tuple #[.string (Pl.foldedOut k t u), .bool (Pl.foldedOk k t u)]) ∧ Below w.heap.size w w' := by
  have HB0 := Lib.hid (Joins.below_alloc1 w (.cells #[.int .i64 k, .string u] 27))
  have HM0 := Lib.hid (max_keep hm HB0.out)
  clear hm
  have hu' : u.size ≤ maxLen := by unfold maxLen; omega
  have H0 := Lib.hid (fun W => isFold_any k u W hu')
  have H1 := Lib.hid (fun W h => isTranslation_any t W (by omega) h)
  have H2 := Lib.hid (fun W h => isTranslation_any (t ++ ⟨#[32, 123, 94]⟩ ++ u ++ ⟨#[125]⟩) W (by have := Pl.foldT_size t u; unfold Pl.foldT at this; omega) h)
  have E1 := Lib.hid (show Pl.foldedOk k t u = (Pl.foldB k u && (Pl.transOk t && Pl.transOk (t ++ ⟨#[32, 123, 94]⟩ ++ u ++ ⟨#[125]⟩))) from rfl)
  have E2 := Lib.hid (show Pl.foldedOut k t u = if Pl.foldedOk k t u = true then t ++ ⟨#[32, 123, 94]⟩ ++ u ++ ⟨#[125]⟩ else ⟨#[]⟩ from rfl)
  generalize Pl.transOk (t ++ ⟨#[32, 123, 94]⟩ ++ u ++ ⟨#[125]⟩) = y at H2 E1
  generalize Pl.transOk t = x at H1 E1
  generalize Pl.foldB k u = z at H0 E1
  cases z <;> cases x <;> cases y
  all_goals
    go_enter Tryd.func13, Tryd.ntmps13
    go_wp2_with (first
      | (go_at_call 45; (with_reducible refine (H1.out _ HM1.out).mono ?_); rintro e w2 ⟨rfl, hb2⟩; have HM2 := Lib.hid (max_keep HM1.out hb2); have HB2 := Lib.hid (below_on3 HB1.out hb2); clear hb2)
      | (go_at_call 45; (with_reducible refine (H2.out _ HM2.out).mono ?_); rintro e w3 ⟨rfl, hb3⟩; have HB3 := Lib.hid (below_on3 HB2.out hb3); clear hb3)
      | (go_at_call 44; (with_reducible refine (H0.out _).mono ?_); rintro e w1 ⟨rfl, hb1⟩; have HM1 := Lib.hid (max_keep HM0.out hb1); have HB1 := Lib.hid (below_on3 HB0.out hb1); clear hb1))
    go_ret2
    exact ⟨by rw [E2.out, E1.out]; rfl, by first | exact HB3.out | exact HB2.out | exact HB1.out⟩

end Go.Proofs.YtfjdbchffhbidaaDoor
