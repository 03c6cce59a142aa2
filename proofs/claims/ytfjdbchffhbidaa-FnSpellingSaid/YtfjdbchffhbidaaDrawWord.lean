/-
  CONTRACTS: the draws of words: plainWord, ending, anyWord, DrawIsWord, DrawVowelGroups, DrawSuffixRule. What is drawn is told by a bound on its size.
-/
import Derived.Test.YtfjdbchffhbidaaDraw
namespace Go.Proofs.Ytfjdbchffhbidaa
open Go.RowKit

set_option maxHeartbeats 800000 in
theorem plainWord_any {v : Value} {m g B : Nat} {w0 w : World} (h : Read v m g B w0 w) (hB : B ≤ 1000000000) :
    Calls Try.prog 69 #[.pointer (some ⟨g, 0, none⟩)] w (DrawnS v m g (B + 2) w0 30) := by
  have HD := Lib.hid h; clear h
  go_enter Try.func69, Try.ntmps69
  go_wp2_with ((go_at_call 65; refine (of_lit [⟨#[99, 97, 116]⟩, ⟨#[104, 97, 112, 112, 121]⟩, ⟨#[109, 97, 107, 101]⟩, ⟨#[114, 117, 110]⟩, ⟨#[116, 114, 121]⟩, ⟨#[98, 111, 120]⟩, ⟨#[100, 105, 101]⟩, ⟨#[97]⟩, ⟨#[98, 101, 101]⟩, ⟨#[115, 104, 111, 101]⟩, ⟨#[100, 121, 101]⟩, ⟨#[99, 104, 117, 114, 99, 104]⟩, ⟨#[112, 108, 97, 121]⟩, ⟨#[115, 116, 111, 112]⟩, ⟨#[102, 105, 120]⟩, ⟨#[114, 97, 105, 110]⟩, ⟨#[98, 117, 115]⟩, ⟨#[121]⟩, ⟨#[101]⟩, ⟨#[98, 101]⟩, ⟨#[115, 104, 101, 101, 112]⟩, ⟨#[119, 105, 115, 104]⟩, ⟨#[104, 111, 112, 101]⟩, ⟨#[104, 111, 112]⟩, ⟨#[116, 105, 101]⟩, ⟨#[99, 97, 114, 114, 121]⟩, ⟨#[115, 104, 111, 119]⟩, ⟨#[113, 117, 105, 122]⟩, ⟨#[111, 102]⟩] 30 (by repeat (first | with_reducible exact HD.out | with_reducible apply Read.alloc | with_reducible apply Read.to)) (by omega) (by decide) (by decide) (by decide) _).mono ?_; rintro e w' ⟨⟨sa, rfl, hsa⟩, hd⟩; replace HD := Lib.hid hd; clear hd))
  go_ret
  exact ⟨⟨_, rfl, hsa⟩, HD.out⟩

set_option maxHeartbeats 800000 in
theorem ending_any {v : Value} {m g B : Nat} {w0 w : World} (h : Read v m g B w0 w) (hB : B ≤ 1000000000) :
    Calls Try.prog 36 #[.pointer (some ⟨g, 0, none⟩)] w (DrawnS v m g (B + 2) w0 30) := by
  have HD := Lib.hid h; clear h
  go_enter Try.func36, Try.ntmps36
  go_wp2_with ((go_at_call 65; refine (of_lit [⟨#[105, 110, 103]⟩, ⟨#[115]⟩, ⟨#[101, 100]⟩, ⟨#[110, 101, 115, 115]⟩, ⟨#[101, 114]⟩, ⟨#[108, 121]⟩, ⟨#[115]⟩, ⟨#[105, 110, 103]⟩, ⟨#[97, 98, 108, 101]⟩, ⟨#[121]⟩, ⟨#[105, 115, 104]⟩] 30 (by repeat (first | with_reducible exact HD.out | with_reducible apply Read.alloc | with_reducible apply Read.to)) (by omega) (by decide) (by decide) (by decide) _).mono ?_; rintro e w' ⟨⟨sa, rfl, hsa⟩, hd⟩; replace HD := Lib.hid hd; clear hd))
  go_ret
  exact ⟨⟨_, rfl, hsa⟩, HD.out⟩

set_option maxHeartbeats 800000 in
theorem anyWord_any {v : Value} {m g B : Nat} {w0 w : World} (h : Read v m g B w0 w) (hB : B ≤ 900000000) :
    Calls Try.prog 35 #[.pointer (some ⟨g, 0, none⟩)] w (DrawnS v m g (B + 4) w0 30) := by
  have HD := Lib.hid h; clear h
  go_enter Try.func35, Try.ntmps35
  go_wp2_with (first | (go_at_call 37; refine (one_any 12 (by repeat (first | with_reducible exact HD.out | with_reducible apply Read.alloc | with_reducible apply Read.to)) (by omega) (by decide) (by decide)).mono ?_; rintro e w' ⟨⟨ba, rfl⟩, hd⟩; replace HD := Lib.hid hd; clear hd) | (go_at_call 65; refine (of_lit [⟨#[]⟩, ⟨#[65]⟩, ⟨#[97, 32, 98]⟩, ⟨#[99, 97, 116, 49]⟩, ⟨#[97, 97, 97, 97, 97, 97, 97, 97, 97, 97, 97, 97, 97, 97, 97, 97, 97, 97, 97, 97, 97, 97, 97, 97]⟩, ⟨#[97, 97, 97, 97, 97, 97, 97, 97, 97, 97, 97, 97, 97, 97, 97, 97, 97, 97, 97, 97, 97, 97, 97, 97, 97]⟩, ⟨#[105, 116, 39, 115]⟩] 30 (by repeat (first | with_reducible exact HD.out | with_reducible apply Read.alloc | with_reducible apply Read.to)) (by omega) (by decide) (by decide) (by decide) _).mono ?_; rintro e w' ⟨⟨sa, rfl, hsa⟩, hd⟩; replace HD := Lib.hid hd; clear hd) | (go_at_call 69; refine (plainWord_any (by repeat (first | with_reducible exact HD.out | with_reducible apply Read.alloc | with_reducible apply Read.to)) (by omega)).mono ?_; rintro e w' ⟨⟨sa, rfl, hsa⟩, hd⟩; replace HD := Lib.hid hd; clear hd))
  all_goals go_ret
  all_goals exact ⟨⟨_, rfl, hsa⟩, HD.out⟩

/-- a text of at most hi bytes, made in new memory -/
def MadeS (w : World) (hi : Nat) (e : Ending) (w' : World) : Prop := ∃ s : ByteArray, e = .returned (.string s) ∧ s.size ≤ hi ∧ Below w.heap.size w w'
def MadeSS (w : World) (hi : Nat) (e : Ending) (w' : World) : Prop := ∃ s t : ByteArray, e = .returned (.tuple #[.string s, .string t]) ∧ s.size ≤ hi ∧ t.size ≤ hi ∧ Below w.heap.size w w'
/-- nothing of the old world was written -/
theorem Read.made {v : Value} {m B : Nat} {w w' : World} {o : Obj} (h : Read v m w.heap.size B (w.alloc o) w') : Below w.heap.size w w' :=
  Below.trans ((Below.refl _ _).alloc (Nat.le_refl _) o) (h.below w.heap.size (Nat.le_refl _) (by rw [World.size_alloc]; omega))

set_option maxHeartbeats 800000 in
theorem DrawSuffixRule_any (v : Value) (w : World) (h : Code8 w v) : Calls Try.prog 49 #[v] w (MadeSS w 30) := by
  obtain ⟨l, h1, h2⟩ := h
  have h3 := h2
  obtain ⟨a, cap, rfl, _, _, _, _, _⟩ := h3
  have HD := Lib.hid (Read.refl (Cur.new rfl h1 h2 58))
  clear h1 h2
  go_enter Try.func49, Try.ntmps49
  go_wp2_with (first | (go_at_call 35; refine (anyWord_any (by repeat (first | with_reducible exact HD.out | with_reducible apply Read.alloc | with_reducible apply Read.to)) (by omega)).mono ?_; rintro e w' ⟨⟨sa, rfl, hsa⟩, hd⟩; replace HD := Lib.hid hd; clear hd) | (go_at_call 37; refine (one_any 8 (by repeat (first | with_reducible exact HD.out | with_reducible apply Read.alloc | with_reducible apply Read.to)) (by omega) (by decide) (by decide)).mono ?_; rintro e w' ⟨⟨ba, rfl⟩, hd⟩; replace HD := Lib.hid hd; clear hd) | (go_at_call 36; refine (ending_any (by repeat (first | with_reducible exact HD.out | with_reducible apply Read.alloc | with_reducible apply Read.to)) (by omega)).mono ?_; rintro e w' ⟨⟨sa, rfl, hsa⟩, hd⟩; replace HD := Lib.hid hd; clear hd))
  all_goals go_ret2
  all_goals exact ⟨_, _, rfl, by assumption, by assumption, HD.out.made⟩

end Go.Proofs.Ytfjdbchffhbidaa
