/-
  THE CLAIM: the law FnFoldInverse returns true for every code, and its argument reads afterwards as before. Conditions: none beyond the given statement's own.
-/
import Derived.Test.YtibchndfndgdeaaDrawUnfT
import Derived.Test.YtibchndfndgdeaaPlainInv
import Derived.Test.YtibchndfndgdeaaRIntsT
import Derived.Test.YtibchndfndgdeaaBasZ
import Derived.Test.YtibchndfndgdeaaOpenB
import Derived.Deep.DeepCutAuto
import Derived.Test.YtibchndfndgdeaaRows
import Derived.ProofKit
import Derived.OpenShut
import Derived.ShutString
import Derived.ChangeOld
import Derived.Below
import Derived.WalkSmall
import Derived.Test.YtibchndfndgdeaaOpen
namespace Go.Proofs.Ytibchndfndgdeaa
open Go.RowKit

theorem into_le (l : List Int) (k : Int) (t : ByteArray) (h : l.length ≤ 1048576) : (Pl.intoOut l k t).length ≤ 1048576 := by
  unfold Pl.intoOut
  split
  · rename_i h1
    simp only [Pl.intoOk, Bool.and_eq_true] at h1
    rw [Pl.withLast_length _ _ (Pl.outline_len h1.1.1).1]; exact h
  · simp
theorem unfold_le (l : List Int) (k : Int) (t : ByteArray) (h : l.length ≤ 1048576) : (Pl.unfoldOut l k t).length ≤ 1048576 := by
  unfold Pl.unfoldOut
  split
  · rename_i h1
    simp only [Pl.unfoldOk, Bool.and_eq_true] at h1
    rw [Pl.withLast_length _ _ (Pl.outline_len h1.1.1).1]; exact h
  · simp
theorem bto {b w0 : World} (h : Below w0.heap.size w0 b) {c : World} (hb : Below b.heap.size b c) : Below w0.heap.size w0 c := h.trans (hb.mono h.size)

set_option maxRecDepth 20000 in
set_option maxHeartbeats 3200000 in
theorem FnFoldInverse_walk (v : Value) (l : List Int) (w : World) (h : Rows w v l.length 1 (u8s l) ∧ allByte l) :
    Calls Try.prog 3 #[v] w fun e w' => e = .returned (.bool true) ∧ Below w.heap.size w w' := by
  have HCa : Code8 w v := ⟨l, h.2, h.1⟩
  obtain ⟨ar, cap, rfl, hcap, hmax, _, _, _⟩ := h.1
  unfold maxLen at hmax
  clear h
  by_cases hbig : 65536 < l.length
  · go_enter Try.func3, Try.ntmps3
    go_wp2_with ((go_at_call 4; go_in))
    go_ret
    exact ⟨rfl, (by repeat (first | with_reducible exact Below.refl _ _ | with_reducible assumption | with_reducible refine Below.alloc ?_ ?_ _ | with_reducible refine Below.setCell ?_ ?_ _ | with_reducible refine Below.drew ?_ | with_reducible refine below_drewN ?_ _ | with_reducible refine Below.trans ?_ (Below.mono (by assumption) ?_) | omega | ((repeat (first | rw [World.size_alloc] | rw [size_setCell] | rw [size_drewN] | rw [size_drew])); omega) | exact Nat.le_refl _ | (dsimp only; omega) | (simp [World.setCell]; omega)))⟩
  have HC0 := Lib.hid HCa
  go_enter Try.func3, Try.ntmps3
  go_upto_region 4 with (first | (go_at_call 4; go_in) | (go_at_call 5; refine (DrawFoldInto_any _ _ HC0.out).mono ?_; rintro e w1 ⟨lv, lo, k, t, rfl, hown, hlo, ht, hb⟩; have B0 := Lib.hid hb; have R0 := Lib.hid (Rows.of_own hown); clear hb hown))
  clear HCa hbig hmax hcap HC0
  have hl2 : lo.length ≤ 1048576 := by omega
  have htm : t.size ≤ maxLen := by unfold maxLen; omega
  have hA := into_le lo k t hl2
  have hB := unfold_le lo k t hl2
  have hN := Pl.inv_never lo k t
  have HI := Lib.hid (fun W h => FoldInto_any lv lo k t W h hl2 htm)
  have HIs := Lib.hid (fun W h => specFoldInto_any lv lo k t W h hl2 htm)
  have HU := Lib.hid (fun W h => Unfold_any lv lo k t W h hl2 htm)
  have HUs := Lib.hid (fun W h => specUnfold_any lv lo k t W h hl2 htm)
  have HBk := Lib.hid (show Pl.intoOk lo k t = true → ∀ (u : Value) (W : World), Rows W u (Pl.intoOut lo k t).length 1 (ints (Pl.intoOut lo k t)) → Calls Try.prog 8 #[u, .agg #[.int .i64 k, .string t]] W (RetRowB 3 1 W.heap.size W lo.length (ints lo) true) from fun h u W hu => by
    have c := Unfold_any u (Pl.intoOut lo k t) k t W hu hA htm
    rw [(Pl.inv_into lo k t h).1, (Pl.inv_into lo k t h).2] at c
    exact c)
  have HAg := Lib.hid (show Pl.unfoldOk lo k t = true → ∀ (u : Value) (W : World), Rows W u (Pl.unfoldOut lo k t).length 1 (ints (Pl.unfoldOut lo k t)) → Calls Try.prog 6 #[u, .agg #[.int .i64 k, .string t]] W (RetRowB 3 1 W.heap.size W lo.length (ints lo) true) from fun h u W hu => by
    have c := FoldInto_any u (Pl.unfoldOut lo k t) k t W hu hB htm
    rw [(Pl.inv_un lo k t h).1, (Pl.inv_un lo k t h).2] at c
    exact c)
  generalize Pl.intoOut lo k t = A at HI HIs HBk hA
  generalize Pl.unfoldOut lo k t = B at HU HUs HAg hB
  generalize Pl.intoOk lo k t = ok at HI HIs HBk hN
  generalize Pl.unfoldOk lo k t = okB at HU HUs HAg hN
  have B1 := Lib.hid (B0.out.trans ((Joins.below_alloc1 w1 (.cells #[.int .i64 k, .string t] 26)).mono B0.out.size))
  have R0_1 := Lib.hid (R0.out.keep (Joins.below_alloc1 w1 (.cells #[.int .i64 k, .string t] 26)))
  have fa1 : (w1.alloc (.cells #[.int .i64 k, .string t] 26)).cell? ⟨w1.heap.size, 0, none⟩ = some (.int .i64 k) := by rw [World.cell?_alloc_mark]; rfl
  have fb1 : (w1.alloc (.cells #[.int .i64 k, .string t] 26)).cell? ⟨w1.heap.size, 1, none⟩ = some (.string t) := by rw [World.cell?_alloc_mark]; rfl
  clear B0 R0
  generalize w1.alloc (.cells #[.int .i64 k, .string t] 26) = y1 at B1 R0_1 fa1 fb1 ⊢
  generalize w1.heap.size = b4 at fa1 fb1 ⊢
  have Q1 := Lib.hid (Below.refl y1.heap.size y1)
  cases ok
  · cases okB
    · go_wp2_with (first
        | (go_at_call 10; have hx := Q6; (with_reducible refine (rInts_same _ _ B _ R4_6.out R5_6.out hB).mono ?_); rintro e y7 ⟨rfl, hd⟩; have hb := hd.below; have R0_7 := Lib.hid (R0_6.out.keep hb); have R2_7 := Lib.hid (R2_6.out.keep hb); have R3_7 := Lib.hid (R3_6.out.keep hb); have R4_7 := Lib.hid (R4_6.out.keep hb); have R5_7 := Lib.hid (R5_6.out.keep hb); have Q7 := Lib.hid (bto Q6.out hb); have fa7 := keepcP hb fa6; have fb7 := keepcP hb fb6; clear hb hd hx Q6 fa6 fb6 R0_6 R2_6 R3_6 R4_6 R5_6)
        | (go_at_call 10; have hx := Q5; (with_reducible refine (rInts_same _ _ A _ R2_5.out R3_5.out hA).mono ?_); rintro e y6 ⟨rfl, hd⟩; have hb := hd.below; have R0_6 := Lib.hid (R0_5.out.keep hb); have R2_6 := Lib.hid (R2_5.out.keep hb); have R3_6 := Lib.hid (R3_5.out.keep hb); have R4_6 := Lib.hid (R4_5.out.keep hb); have R5_6 := Lib.hid (R5_5.out.keep hb); have Q6 := Lib.hid (bto Q5.out hb); have fa6 := keepcP hb fa5; have fb6 := keepcP hb fb5; clear hb hd hx Q5 fa5 fb5 R0_5 R2_5 R3_5 R4_5 R5_5)
        | (go_at_call 9; have hx := Q4; (with_reducible refine (HUs.out _ R0_4.out).mono ?_); rintro e y5 ⟨v5, rfl, hown, hb⟩; have R5_5 := Lib.hid (Rows.of_own hown); have R0_5 := Lib.hid (R0_4.out.keep hb); have R2_5 := Lib.hid (R2_4.out.keep hb); have R3_5 := Lib.hid (R3_4.out.keep hb); have R4_5 := Lib.hid (R4_4.out.keep hb); have Q5 := Lib.hid (bto Q4.out hb); have fa5 := keepcP hb fa4; have fb5 := keepcP hb fb4; clear hb hown hx Q4 fa4 fb4 R0_4 R2_4 R3_4 R4_4)
        | (go_at_call 8; have hx := Q3; (with_reducible refine (HU.out _ R0_3.out).mono ?_); rintro e y4 ⟨v4, rfl, hown, hb⟩; have R4_4 := Lib.hid (Rows.of_own hown); have R0_4 := Lib.hid (R0_3.out.keep hb); have R2_4 := Lib.hid (R2_3.out.keep hb); have R3_4 := Lib.hid (R3_3.out.keep hb); have Q4 := Lib.hid (bto Q3.out hb); have fa4 := keepcP hb fa3; have fb4 := keepcP hb fb3; clear hb hown hx Q3 fa3 fb3 R0_3 R2_3 R3_3)
        | (go_at_call 7; have hx := Q2; (with_reducible refine (HIs.out _ R0_2.out).mono ?_); rintro e y3 ⟨v3, rfl, hown, hb⟩; have R3_3 := Lib.hid (Rows.of_own hown); have R0_3 := Lib.hid (R0_2.out.keep hb); have R2_3 := Lib.hid (R2_2.out.keep hb); have Q3 := Lib.hid (bto Q2.out hb); have fa3 := keepcP hb fa2; have fb3 := keepcP hb fb2; clear hb hown hx Q2 fa2 fb2 R0_2 R2_2)
        | (go_at_call 6; have hx := Q1; (with_reducible refine (HI.out _ R0_1.out).mono ?_); rintro e y2 ⟨v2, rfl, hown, hb⟩; have R2_2 := Lib.hid (Rows.of_own hown); have R0_2 := Lib.hid (R0_1.out.keep hb); have Q2 := Lib.hid (bto Q1.out hb); have fa2 := keepcP hb fa1; have fb2 := keepcP hb fb1; clear hb hown hx Q1 fa1 fb1 R0_1))
      go_ret
      exact ⟨rfl, B1.out.trans (Q7.out.mono B1.out.size)⟩
    · go_wp2_with (first
        | (go_at_call 10; have hx := Q8; (with_reducible refine (rInts_same _ _ lo _ R8_8.out R0_8.out hl2).mono ?_); rintro e y9 ⟨rfl, hd⟩; have hb := hd.below; have R0_9 := Lib.hid (R0_8.out.keep hb); have Q9 := Lib.hid (bto Q8.out hb); have fa9 := keepcP hb fa8; have fb9 := keepcP hb fb8; clear hb hd hx Q8 fa8 fb8 R0_8)
        | (go_at_call 6; have hx := Q7; (with_reducible refine (HAg.out (by trivial) _ _ R4_7.out).mono ?_); rintro e y8 ⟨v8, rfl, hown, hb⟩; have R8_8 := Lib.hid (Rows.of_own hown); have R0_8 := Lib.hid (R0_7.out.keep hb); have Q8 := Lib.hid (bto Q7.out hb); have fa8 := keepcP hb fa7; have fb8 := keepcP hb fb7; clear hb hown hx Q7 fa7 fb7 R0_7)
        | (go_at_call 10; have hx := Q6; (with_reducible refine (rInts_same _ _ B _ R4_6.out R5_6.out hB).mono ?_); rintro e y7 ⟨rfl, hd⟩; have hb := hd.below; have R0_7 := Lib.hid (R0_6.out.keep hb); have R2_7 := Lib.hid (R2_6.out.keep hb); have R3_7 := Lib.hid (R3_6.out.keep hb); have R4_7 := Lib.hid (R4_6.out.keep hb); have R5_7 := Lib.hid (R5_6.out.keep hb); have Q7 := Lib.hid (bto Q6.out hb); have fa7 := keepcP hb fa6; have fb7 := keepcP hb fb6; clear hb hd hx Q6 fa6 fb6 R0_6 R2_6 R3_6 R4_6 R5_6)
        | (go_at_call 10; have hx := Q5; (with_reducible refine (rInts_same _ _ A _ R2_5.out R3_5.out hA).mono ?_); rintro e y6 ⟨rfl, hd⟩; have hb := hd.below; have R0_6 := Lib.hid (R0_5.out.keep hb); have R2_6 := Lib.hid (R2_5.out.keep hb); have R3_6 := Lib.hid (R3_5.out.keep hb); have R4_6 := Lib.hid (R4_5.out.keep hb); have R5_6 := Lib.hid (R5_5.out.keep hb); have Q6 := Lib.hid (bto Q5.out hb); have fa6 := keepcP hb fa5; have fb6 := keepcP hb fb5; clear hb hd hx Q5 fa5 fb5 R0_5 R2_5 R3_5 R4_5 R5_5)
        | (go_at_call 9; have hx := Q4; (with_reducible refine (HUs.out _ R0_4.out).mono ?_); rintro e y5 ⟨v5, rfl, hown, hb⟩; have R5_5 := Lib.hid (Rows.of_own hown); have R0_5 := Lib.hid (R0_4.out.keep hb); have R2_5 := Lib.hid (R2_4.out.keep hb); have R3_5 := Lib.hid (R3_4.out.keep hb); have R4_5 := Lib.hid (R4_4.out.keep hb); have Q5 := Lib.hid (bto Q4.out hb); have fa5 := keepcP hb fa4; have fb5 := keepcP hb fb4; clear hb hown hx Q4 fa4 fb4 R0_4 R2_4 R3_4 R4_4)
        | (go_at_call 8; have hx := Q3; (with_reducible refine (HU.out _ R0_3.out).mono ?_); rintro e y4 ⟨v4, rfl, hown, hb⟩; have R4_4 := Lib.hid (Rows.of_own hown); have R0_4 := Lib.hid (R0_3.out.keep hb); have R2_4 := Lib.hid (R2_3.out.keep hb); have R3_4 := Lib.hid (R3_3.out.keep hb); have Q4 := Lib.hid (bto Q3.out hb); have fa4 := keepcP hb fa3; have fb4 := keepcP hb fb3; clear hb hown hx Q3 fa3 fb3 R0_3 R2_3 R3_3)
        | (go_at_call 7; have hx := Q2; (with_reducible refine (HIs.out _ R0_2.out).mono ?_); rintro e y3 ⟨v3, rfl, hown, hb⟩; have R3_3 := Lib.hid (Rows.of_own hown); have R0_3 := Lib.hid (R0_2.out.keep hb); have R2_3 := Lib.hid (R2_2.out.keep hb); have Q3 := Lib.hid (bto Q2.out hb); have fa3 := keepcP hb fa2; have fb3 := keepcP hb fb2; clear hb hown hx Q2 fa2 fb2 R0_2 R2_2)
        | (go_at_call 6; have hx := Q1; (with_reducible refine (HI.out _ R0_1.out).mono ?_); rintro e y2 ⟨v2, rfl, hown, hb⟩; have R2_2 := Lib.hid (Rows.of_own hown); have R0_2 := Lib.hid (R0_1.out.keep hb); have Q2 := Lib.hid (bto Q1.out hb); have fa2 := keepcP hb fa1; have fb2 := keepcP hb fb1; clear hb hown hx Q1 fa1 fb1 R0_1))
      go_ret
      exact ⟨rfl, B1.out.trans (Q9.out.mono B1.out.size)⟩
  · cases okB
    · go_wp2_with (first
        | (go_at_call 10; have hx := Q8; (with_reducible refine (rInts_same _ _ lo _ R8_8.out R0_8.out hl2).mono ?_); rintro e y9 ⟨rfl, hd⟩; have hb := hd.below; have R0_9 := Lib.hid (R0_8.out.keep hb); have Q9 := Lib.hid (bto Q8.out hb); have fa9 := keepcP hb fa8; have fb9 := keepcP hb fb8; clear hb hd hx Q8 fa8 fb8 R0_8)
        | (go_at_call 8; have hx := Q7; (with_reducible refine (HBk.out (by trivial) _ _ R2_7.out).mono ?_); rintro e y8 ⟨v8, rfl, hown, hb⟩; have R8_8 := Lib.hid (Rows.of_own hown); have R0_8 := Lib.hid (R0_7.out.keep hb); have Q8 := Lib.hid (bto Q7.out hb); have fa8 := keepcP hb fa7; have fb8 := keepcP hb fb7; clear hb hown hx Q7 fa7 fb7 R0_7)
        | (go_at_call 10; have hx := Q6; (with_reducible refine (rInts_same _ _ B _ R4_6.out R5_6.out hB).mono ?_); rintro e y7 ⟨rfl, hd⟩; have hb := hd.below; have R0_7 := Lib.hid (R0_6.out.keep hb); have R2_7 := Lib.hid (R2_6.out.keep hb); have R3_7 := Lib.hid (R3_6.out.keep hb); have R4_7 := Lib.hid (R4_6.out.keep hb); have R5_7 := Lib.hid (R5_6.out.keep hb); have Q7 := Lib.hid (bto Q6.out hb); have fa7 := keepcP hb fa6; have fb7 := keepcP hb fb6; clear hb hd hx Q6 fa6 fb6 R0_6 R2_6 R3_6 R4_6 R5_6)
        | (go_at_call 10; have hx := Q5; (with_reducible refine (rInts_same _ _ A _ R2_5.out R3_5.out hA).mono ?_); rintro e y6 ⟨rfl, hd⟩; have hb := hd.below; have R0_6 := Lib.hid (R0_5.out.keep hb); have R2_6 := Lib.hid (R2_5.out.keep hb); have R3_6 := Lib.hid (R3_5.out.keep hb); have R4_6 := Lib.hid (R4_5.out.keep hb); have R5_6 := Lib.hid (R5_5.out.keep hb); have Q6 := Lib.hid (bto Q5.out hb); have fa6 := keepcP hb fa5; have fb6 := keepcP hb fb5; clear hb hd hx Q5 fa5 fb5 R0_5 R2_5 R3_5 R4_5 R5_5)
        | (go_at_call 9; have hx := Q4; (with_reducible refine (HUs.out _ R0_4.out).mono ?_); rintro e y5 ⟨v5, rfl, hown, hb⟩; have R5_5 := Lib.hid (Rows.of_own hown); have R0_5 := Lib.hid (R0_4.out.keep hb); have R2_5 := Lib.hid (R2_4.out.keep hb); have R3_5 := Lib.hid (R3_4.out.keep hb); have R4_5 := Lib.hid (R4_4.out.keep hb); have Q5 := Lib.hid (bto Q4.out hb); have fa5 := keepcP hb fa4; have fb5 := keepcP hb fb4; clear hb hown hx Q4 fa4 fb4 R0_4 R2_4 R3_4 R4_4)
        | (go_at_call 8; have hx := Q3; (with_reducible refine (HU.out _ R0_3.out).mono ?_); rintro e y4 ⟨v4, rfl, hown, hb⟩; have R4_4 := Lib.hid (Rows.of_own hown); have R0_4 := Lib.hid (R0_3.out.keep hb); have R2_4 := Lib.hid (R2_3.out.keep hb); have R3_4 := Lib.hid (R3_3.out.keep hb); have Q4 := Lib.hid (bto Q3.out hb); have fa4 := keepcP hb fa3; have fb4 := keepcP hb fb3; clear hb hown hx Q3 fa3 fb3 R0_3 R2_3 R3_3)
        | (go_at_call 7; have hx := Q2; (with_reducible refine (HIs.out _ R0_2.out).mono ?_); rintro e y3 ⟨v3, rfl, hown, hb⟩; have R3_3 := Lib.hid (Rows.of_own hown); have R0_3 := Lib.hid (R0_2.out.keep hb); have R2_3 := Lib.hid (R2_2.out.keep hb); have Q3 := Lib.hid (bto Q2.out hb); have fa3 := keepcP hb fa2; have fb3 := keepcP hb fb2; clear hb hown hx Q2 fa2 fb2 R0_2 R2_2)
        | (go_at_call 6; have hx := Q1; (with_reducible refine (HI.out _ R0_1.out).mono ?_); rintro e y2 ⟨v2, rfl, hown, hb⟩; have R2_2 := Lib.hid (Rows.of_own hown); have R0_2 := Lib.hid (R0_1.out.keep hb); have Q2 := Lib.hid (bto Q1.out hb); have fa2 := keepcP hb fa1; have fb2 := keepcP hb fb1; clear hb hown hx Q1 fa1 fb1 R0_1))
      go_ret
      exact ⟨rfl, B1.out.trans (Q9.out.mono B1.out.size)⟩
    · cases hN

namespace fnFoldInverse
open Go.ChangeShapes Go.WideShapes Go.ChangeAt Go.RowKit
open Go.ChangeMaps (open_string shut_string)
set_option linter.unusedVariables false
theorem own : ownKnob Try.prog.godebug = none := by kernel_rfl
theorem laidOut : laidOutB Try.prog = true := by kernel_rfl
set_option maxRecDepth 100000 in
theorem lifted (os : Os) (started : os.Started) (H : Type) (enc : TypeId × Value → H) :
    ReturnsInHanded {} Try.checked os 3 .any (Rows.fnFoldInverseSpec.pre6 enc Try.prog Try.f3 Rows.fnFoldInverseRow.domain false) (Rows.fnFoldInverseSpec.post enc Try.prog Try.f3 false true false false) := by
  refine returnsInHanded_of_change (C := Try.checked) own started (by kernel_rfl) Try.func3
    (ChangeSpec.witness6 (enc := enc) (C := Try.checked) false ⟨#[], #[.slice none 0 0], []⟩ 8 (by kernel_rfl) (by kernel_rfl) (by kernel_rfl) (by kernel_rfl)) ?_
  intro W base args ds gs before hval0 hW hcnd _
  have hval : ∀ (j : Nat) t v, Try.f3.params[j]? = some t → args[j]? = some v → Value.okWide Try.prog W .any base t v := hval0
  have hW' := hW
  obtain ⟨p, q, hA0, hV, rfl, hfz, hnd⟩ := hW
  have hA : DataW.TrodAll enc Try.prog W 0 (fun _ => true) true Try.f3.params.toList args.toList ds p := hA0
  rw [Try.params3] at hA hval
  obtain ⟨v0, vs0, d0, ds0, p0, q0, hargs, rfl, rfl, h0, r0⟩ := trodAll_cons hA
  obtain ⟨rfl, rfl, rfl⟩ := trodAll_nil r0
  obtain rfl : args = #[v0] := by cases args; simp_all
  obtain ⟨rfl, rfl⟩ := trodVars_none hV
  have k0 := h0
  have lt0 : ∀ x ∈ p0, x.block < W.heap.size := by obtain ⟨m, hm⟩ := k0; exact DataW.trod_lt m _ _ _ hm
  obtain ⟨a0, w0⟩ := (fun W v hv h => open_bytesR (w := W) (v := v) Try.underlying22 Try.underlying5 (by kernel_rfl) hv h) W v0 (hval 0 22 v0 rfl rfl) h0
  clear hA0 hval0
  refine (FnFoldInverse_walk v0 a0 W w0).mono fun e W' ⟨he, bel⟩ => ?_
  subst he
  exact ⟨_, rfl, _, _, _, [], _, [], hW', trodAll_mk1 (shut_bool Try.underlying4 _), (trodAll_cons_mk (Below.trod laidOut (by kernel_rfl) (of_decide_eq_true (by kernel_rfl)) k0 bel lt0) trodAll_mk0), rfl, bel.frame _, fun h => by cases h⟩
theorem over : Rows.fnFoldInverseRow.holds Try.pinned (OpenSpec.ofChange Rows.fnFoldInverseSpec) :=
  OpenClaim.holds_of_wide 3 Try.f3 rfl rfl rfl rfl rfl rfl rfl ⟨rfl, rfl, rfl, rfl, rfl⟩ rfl rfl rfl rfl rfl (by kernel_rfl) Try.func3 (by kernel_rfl)
    (of_decide_eq_true (by kernel_rfl)) (by unfold Func.isWrapper; first | (rw [if_pos (by decide +kernel)]; kernel_rfl) | (rw [if_neg (by decide +kernel)]; exact ⟨rfl, rfl⟩))
    (fun os started H enc _ => lifted os started H enc)
theorem proved : Rows.FnFoldInverseSaid := over
#print axioms proved
end fnFoldInverse

end Go.Proofs.Ytibchndfndgdeaa
