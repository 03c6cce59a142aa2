/-
  CONTRACTS: entries and dictionaries looked at, of the program and of the reference.
-/
import Derived.Test.YtfjdbchffhbidaaDoorCmp
import Derived.Test.YtfjdbchffhbidaaDoorTrans5
import Derived.Test.YtfjdbchffhbidaaDoorEntM
import Derived.Test.YtfjdbchffhbidaaDoorOutline
import Derived.Test.YtfjdbchffhbidaaDoorFoldS
import Derived.Deep.RegionWith
import Derived.Deep.DeepCutAuto
namespace Go.Proofs.YtfjdbchffhbidaaDoor
open Go.RowKit

theorem max_keepT {w w' : World} (h : ∃ m, w.cell? ⟨0, 0, none⟩ = some (.int .i64 m)) (hb : Below w.heap.size w w') : ∃ m, w'.cell? ⟨0, 0, none⟩ = some (.int .i64 m) := by
  obtain ⟨m, h⟩ := h
  exact ⟨m, keepcT hb h⟩

set_option maxHeartbeats 800000 in
theorem IsValidEntry_any (u : Value) (l : List Int) (t : ByteArray) (w : World) (hr : Rows w u l.length 1 (ints l)) (hl : l.length ≤ 1048576) (ht : t.size ≤ 1048576) (hm : ∃ m, w.cell? ⟨0, 0, none⟩ = some (.int .i64 m)) :
    Calls Tryd.prog 98 #[.agg #[u, .string t]] w fun e w' => e = .returned (.bool (Pl.entOk (l, t))) ∧ Below w.heap.size w w' := by
  have HB0 := Lib.hid (Joins.below_alloc1 w (.cells #[u, .string t] 132))
  have HM0 := Lib.hid (max_keepT hm HB0.out)
  have HV := Lib.hid (IsValidOutline_any u l _ (hr.keep HB0.out) hl)
  have HT := Lib.hid (fun W h => isTranslation_any t W (by omega) h)
  have HC := Lib.hid (show (w.alloc (.cells #[u, .string t] 132)).cell? ⟨w.heap.size, 1, none⟩ = some (.string t) by simp [go_sem])
  obtain ⟨a, cap, rfl, _, _⟩ := rows_form hr
  have E := Lib.hid (show Pl.entOk (l, t) = (Pl.outlineB l && Pl.transOk t) from rfl)
  clear hr hm
  generalize Pl.transOk t = y at HT E
  generalize Pl.outlineB l = x at HV E
  cases x
  all_goals
    go_enter Tryd.func98, Tryd.ntmps98
    go_wp2_with (first
      | (go_at_call 125; (with_reducible refine HV.out.mono ?_); rintro e w1 ⟨rfl, hb1⟩; have d1 := keepcT hb1 HC.out; have HM1 := Lib.hid (max_keepT HM0.out hb1); have HB1 := Lib.hid (below_on3 HB0.out hb1); clear hb1)
      | (go_at_call 45; (with_reducible refine (HT.out _ HM1.out).mono ?_); rintro e w2 ⟨rfl, hb2⟩; have HB2 := Lib.hid (below_on3 HB1.out hb2); clear hb2))
    go_ret
    exact ⟨ret_bool (by rw [E.out]; rfl), by first | exact HB2.out | exact HB1.out⟩

set_option maxHeartbeats 800000 in
theorem l6Entry_any (u : Value) (l : List Int) (t : ByteArray) (w : World) (hr : Rows w u l.length 1 (ints l)) (hl : l.length ≤ 1048576) (ht : t.size ≤ 1048576) :
    Calls Tryd.prog 94 #[.agg #[u, .string t]] w fun e w' => e = .returned (.bool (Pl.entOk (l, t))) ∧ Below w.heap.size w w' := by
  have HB0 := Lib.hid (Joins.below_alloc1 w (.cells #[u, .string t] 132))
  have HR := Lib.hid (hr.keep HB0.out)
  have HT := Lib.hid (fun W => l5Parse_any t W (by omega))
  unfold Read1 at HT
  have HC := Lib.hid (show (w.alloc (.cells #[u, .string t] 132)).cell? ⟨w.heap.size, 0, none⟩ = some u by simp [go_sem])
  obtain ⟨a, cap, rfl, _, _⟩ := rows_form hr
  have E := Lib.hid (show Pl.entOk (l, t) = (Pl.outlineB l && Pl.transOk t) from rfl)
  have HV := Lib.hid (fun W h => l4Good_any (.slice a l.length cap) l W h hl)
  clear hr
  generalize Pl.transOut t = o at HT
  generalize Pl.transOk t = y at HT E
  generalize Pl.outlineB l = x at HV E
  cases x
  all_goals
    go_enter Tryd.func94, Tryd.ntmps94
    go_wp2_with (first
      | (go_at_call 80; (with_reducible refine (HT.out _).mono ?_); rintro e w1 ⟨v1, rfl, ho1, hb1⟩; obtain ⟨a1, c1, rfl⟩ := row_formA ho1; have d1 := keepcT hb1 HC.out; have HR1 := Lib.hid (HR.out.keep hb1); have HB1 := Lib.hid (below_on3 HB0.out hb1); clear hb1 ho1)
      | (go_at_call 123; (with_reducible refine (HV.out _ HR1.out).mono ?_); rintro e w' ⟨rfl, rfl⟩))
    go_ret
    exact ⟨ret_bool (by rw [E.out]; rfl), HB1.out⟩

end Go.Proofs.YtfjdbchffhbidaaDoor
