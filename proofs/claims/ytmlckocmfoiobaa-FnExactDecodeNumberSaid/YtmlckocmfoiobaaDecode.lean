/-
  CONTRACTS: DecodeNumber of the program and the reference.
-/
import Derived.Test.YtmlckocmfoiobaaStrokeS
import Derived.Test.YtmlckocmfoiobaaIntS
namespace Go.Proofs.Ytmlckocmfoiobaa
open Go.RowKit

namespace Pl
theorem written_size (s : Int) : (written s).size ≤ 20 := by
  unfold written; split
  · rw [← specText_ten]; exact specText_size _ _ s 10
  · exact Nat.zero_le _
/-- the text so far and the strokes still to come -/
def dec (o : ByteArray) : List Int → Option ByteArray
  | [] => some o
  | s :: r => if isNum s = true ∧ o.size + (written s).size ≤ 30 then dec (o ++ written s) r else none
def decoded (l : List Int) : ByteArray := (dec ⟨#[]⟩ l).getD ⟨#[]⟩
def decodedOk (l : List Int) : Bool := (dec ⟨#[]⟩ l).isSome && !l.isEmpty
/-- k strokes in -/
def DecAt (l : List Int) (k : Nat) (o : ByteArray) : Prop := dec o (l.drop k) = dec ⟨#[]⟩ l ∧ o.size ≤ 30 ∧ (o.toList == []) = decide (k = 0)
theorem DecAt.zero (l : List Int) : DecAt l 0 ⟨#[]⟩ := ⟨rfl, Nat.zero_le _, by rw [ba_toList]; rfl⟩
theorem dec_cons (o : ByteArray) (s : Int) (r : List Int) : dec o (s :: r) = if isNum s = true ∧ o.size + (written s).size ≤ 30 then dec (o ++ written s) r else none := rfl
theorem drop_eq (l : List Int) (k : Nat) (h : k < l.length) : l.drop k = l[k] :: l.drop (k + 1) := List.drop_eq_getElem_cons h
theorem DecAt.no {l : List Int} {k : Nat} {o : ByteArray} (h : DecAt l k o) (hk : k < l.length) (hb : isNum l[k] = false ∨ 30 < o.size + (written l[k]).size) : decoded l = ⟨#[]⟩ ∧ decodedOk l = false := by
  have h1 := h.1
  rw [drop_eq l k hk, dec_cons] at h1
  rw [if_neg (by rcases hb with hb | hb <;> simp [hb])] at h1
  unfold decoded decodedOk
  rw [← h1]; exact ⟨rfl, rfl⟩
theorem DecAt.succ {l : List Int} {k : Nat} {o : ByteArray} (h : DecAt l k o) (hk : k < l.length) (hb : isNum l[k] = true) (hs : o.size + (written l[k]).size ≤ 30) : DecAt l (k + 1) (o ++ written l[k]) := by
  have h1 := h.1
  rw [drop_eq l k hk, dec_cons] at h1
  rw [if_pos ⟨hb, hs⟩] at h1
  refine ⟨h1, by rw [ByteArray.size_append]; exact hs, ?_⟩
  have he := written_isNum l[k]
  rw [hb] at he
  rw [ba_toList] at he ⊢
  rw [ba_append]
  generalize (written l[k]).data.toList = x at he
  cases x with
  | nil => simp at he
  | cons c x => generalize o.data.toList = y; cases y <;> rfl
theorem DecAt.done {l : List Int} {k : Nat} {o : ByteArray} (h : DecAt l k o) (hk : k = l.length) : decoded l = o ∧ decodedOk l = !(o.toList == []) ∧ decodedOk l = decide (0 < (l.length : Int)) := by
  have h1 := h.1
  rw [List.drop_eq_nil_of_le (by omega)] at h1
  unfold decoded decodedOk
  rw [← h1, h.2.2]
  refine ⟨rfl, ?_, ?_⟩
  · subst hk; cases l <;> simp [dec]
  · cases l <;> simp [dec]
end Pl

set_option maxHeartbeats 1600000 in
theorem DecodeNumber_any (v : Value) (l : List Int) (w : World) (hr : Rows w v l.length 1 (ints l)) (hl : l.length ≤ 1048576) :
    Calls Try.prog 50 #[v] w fun e w' => e = .returned (.tuple #[.string (Pl.decoded l), .bool (Pl.decodedOk l)]) ∧ Below w.heap.size w w' := by
  obtain ⟨a, cap, rfl, _, _, _, _, hcells⟩ := hr
  go_enter Try.func50, Try.ntmps50
  go_wp2
  go_loopw [4, 10] (fun o i wr => ∃ k : Nat, k ≤ l.length ∧ i = .int .i64 k ∧ ∃ t : ByteArray, o = .string t ∧ Pl.DecAt l k t ∧ Below w.heap.size w wr) (fun _ i _ => l.length - (intOf i).toNat)
  case atStart => exact ⟨0, Nat.zero_le _, rfl, _, rfl, Pl.DecAt.zero l, Below.refl _ _⟩
  case round =>
    obtain ⟨k, hk, rfl, t, rfl, hdec, hb⟩ := hrel
    have HD := Lib.hid hdec; have HB := Lib.hid hb; clear hdec hb
    have hts := HD.out.2.1
    by_cases hlt : k < l.length
    · obtain ⟨b, off, rfl, hsrc⟩ := (hcells.keep HB.out) k _ (ints_at l k hlt)
      have hE := written_empty l[k]
      by_cases hn : Pl.isNum l[k] = false
      · have hR := Lib.hid (HD.out.no hlt (.inl hn))
        have hW := written_no hn
        rw [hn] at hE
        go_wp2_with ((go_at_call 57; refine (written_any _ _).mono ?_; rintro e w1 ⟨rfl, hb1⟩; have hcf := bcell hb1; have hz1 := hb1.size; (repeat (first | simp only [World.size_alloc] at hz1 hcf | simp only [size_setCell] at hz1 hcf | simp only [size_drewN] at hz1 hcf | simp only [size_drew] at hz1 hcf)); obtain ⟨hc1, hf1⟩ := hcf; (try have hn1a : _ < w1.heap.size := Nat.lt_of_lt_of_le hn1a (by omega)); (try have hn1b : _ < w1.heap.size := Nat.lt_of_lt_of_le hn1b (by omega)); (try have hn1c : _ < w1.heap.size := Nat.lt_of_lt_of_le hn1c (by omega)); (try have hn1d : _ < w1.heap.size := Nat.lt_of_lt_of_le hn1d (by omega)); (try have hn1e : _ < w1.heap.size := Nat.lt_of_lt_of_le hn1e (by omega)); (try have ho1a : _ < w1.heap.size := Nat.lt_of_lt_of_le ho1a (by omega)); (try have ho1b : _ < w1.heap.size := Nat.lt_of_lt_of_le ho1b (by omega)); (try have ho1c : _ < w1.heap.size := Nat.lt_of_lt_of_le ho1c (by omega)); (try have ho1d : _ < w1.heap.size := Nat.lt_of_lt_of_le ho1d (by omega)); (try have ho1e : _ < w1.heap.size := Nat.lt_of_lt_of_le ho1e (by omega)); (try have ho1a := hn1a); (try have ho1b := hn1b); (try have ho1c := hn1c); (try have ho1d := hn1d); (try have ho1e := hn1e); (try have hn1a := Nat.lt_of_succ_le hz1); (try have hn1b := Nat.lt_of_succ_lt hn1a); (try have hn1c := Nat.lt_of_succ_lt hn1b); (try have hn1d := Nat.lt_of_succ_lt hn1c); (try have hn1e := Nat.lt_of_succ_lt hn1d); (try have htA : w.heap.size < w1.heap.size := by omega)))
        all_goals go_ret2
        all_goals exact ⟨ret_strb hR.out.1.symm hR.out.2.symm, HB.out.trans (hb1.mono HB.out.size)⟩
      · have hn1 : Pl.isNum l[k] = true := by simpa using hn
        rw [hn1] at hE
        have hwz := Pl.written_size l[k]
        by_cases hsz : 30 < t.size + (Pl.written l[k]).size
        · have hR := Lib.hid (HD.out.no hlt (.inr hsz))
          have hsi : (30 : Int) < (t.size : Int) + ((Pl.written l[k]).size : Int) := by omega
          go_wp2_with ((go_at_call 57; refine (written_any _ _).mono ?_; rintro e w1 ⟨rfl, hb1⟩; have hcf := bcell hb1; have hz1 := hb1.size; (repeat (first | simp only [World.size_alloc] at hz1 hcf | simp only [size_setCell] at hz1 hcf | simp only [size_drewN] at hz1 hcf | simp only [size_drew] at hz1 hcf)); obtain ⟨hc1, hf1⟩ := hcf; (try have hn1a : _ < w1.heap.size := Nat.lt_of_lt_of_le hn1a (by omega)); (try have hn1b : _ < w1.heap.size := Nat.lt_of_lt_of_le hn1b (by omega)); (try have hn1c : _ < w1.heap.size := Nat.lt_of_lt_of_le hn1c (by omega)); (try have hn1d : _ < w1.heap.size := Nat.lt_of_lt_of_le hn1d (by omega)); (try have hn1e : _ < w1.heap.size := Nat.lt_of_lt_of_le hn1e (by omega)); (try have ho1a : _ < w1.heap.size := Nat.lt_of_lt_of_le ho1a (by omega)); (try have ho1b : _ < w1.heap.size := Nat.lt_of_lt_of_le ho1b (by omega)); (try have ho1c : _ < w1.heap.size := Nat.lt_of_lt_of_le ho1c (by omega)); (try have ho1d : _ < w1.heap.size := Nat.lt_of_lt_of_le ho1d (by omega)); (try have ho1e : _ < w1.heap.size := Nat.lt_of_lt_of_le ho1e (by omega)); (try have ho1a := hn1a); (try have ho1b := hn1b); (try have ho1c := hn1c); (try have ho1d := hn1d); (try have ho1e := hn1e); (try have hn1a := Nat.lt_of_succ_le hz1); (try have hn1b := Nat.lt_of_succ_lt hn1a); (try have hn1c := Nat.lt_of_succ_lt hn1b); (try have hn1d := Nat.lt_of_succ_lt hn1c); (try have hn1e := Nat.lt_of_succ_lt hn1d); (try have htA : w.heap.size < w1.heap.size := by omega)))
          all_goals go_ret2
          all_goals exact ⟨ret_strb hR.out.1.symm hR.out.2.symm, HB.out.trans (hb1.mono HB.out.size)⟩
        · have hS := Lib.hid (HD.out.succ hlt hn1 (by omega))
          have hsi : ¬ (30 : Int) < (t.size : Int) + ((Pl.written l[k]).size : Int) := by omega
          go_wp2_with ((go_at_call 57; refine (written_any _ _).mono ?_; rintro e w1 ⟨rfl, hb1⟩; have hcf := bcell hb1; have hz1 := hb1.size; (repeat (first | simp only [World.size_alloc] at hz1 hcf | simp only [size_setCell] at hz1 hcf | simp only [size_drewN] at hz1 hcf | simp only [size_drew] at hz1 hcf)); obtain ⟨hc1, hf1⟩ := hcf; (try have hn1a : _ < w1.heap.size := Nat.lt_of_lt_of_le hn1a (by omega)); (try have hn1b : _ < w1.heap.size := Nat.lt_of_lt_of_le hn1b (by omega)); (try have hn1c : _ < w1.heap.size := Nat.lt_of_lt_of_le hn1c (by omega)); (try have hn1d : _ < w1.heap.size := Nat.lt_of_lt_of_le hn1d (by omega)); (try have hn1e : _ < w1.heap.size := Nat.lt_of_lt_of_le hn1e (by omega)); (try have ho1a : _ < w1.heap.size := Nat.lt_of_lt_of_le ho1a (by omega)); (try have ho1b : _ < w1.heap.size := Nat.lt_of_lt_of_le ho1b (by omega)); (try have ho1c : _ < w1.heap.size := Nat.lt_of_lt_of_le ho1c (by omega)); (try have ho1d : _ < w1.heap.size := Nat.lt_of_lt_of_le ho1d (by omega)); (try have ho1e : _ < w1.heap.size := Nat.lt_of_lt_of_le ho1e (by omega)); (try have ho1a := hn1a); (try have ho1b := hn1b); (try have ho1c := hn1c); (try have ho1d := hn1d); (try have ho1e := hn1e); (try have hn1a := Nat.lt_of_succ_le hz1); (try have hn1b := Nat.lt_of_succ_lt hn1a); (try have hn1c := Nat.lt_of_succ_lt hn1b); (try have hn1d := Nat.lt_of_succ_lt hn1c); (try have hn1e := Nat.lt_of_succ_lt hn1d); (try have htA : w.heap.size < w1.heap.size := by omega)))
          go_roundw
          case rel => exact ⟨k + 1, by omega, by go_num, _, rfl, hS.out, HB.out.trans (hb1.mono HB.out.size)⟩
          case measure => simp [intOf]; omega
    · have hR := Lib.hid (HD.out.done (by omega))
      go_wp2
      all_goals go_ret2
      all_goals exact ⟨ret_strb hR.out.1.symm (by rw [hR.out.2.1]; simp), HB.out⟩

theorem l15Digits_num {s : Int} (h : Pl.isNum s = true) (w : World) :
    Calls Try.prog 74 #[.int .i64 s] w fun e w' => e = .returned (.string (Pl.written s)) ∧ Below w.heap.size w w' := by
  obtain ⟨n, hn, rfl, hw⟩ := written_yes h
  rw [← hw]; exact l15Digits_any n hn w

set_option maxHeartbeats 1600000 in
theorem specDecodeNumber_any (v : Value) (l : List Int) (w : World) (hr : Rows w v l.length 1 (ints l)) (hl : l.length ≤ 1048576) :
    Calls Try.prog 49 #[v] w fun e w' => e = .returned (.tuple #[.string (Pl.decoded l), .bool (Pl.decodedOk l)]) ∧ Below w.heap.size w w' := by
  obtain ⟨a, cap, rfl, _, _, _, _, hcells⟩ := hr
  go_enter Try.func49, Try.ntmps49
  go_wp2
  go_loopw [4, 5] (fun o i wr => ∃ k : Nat, k ≤ l.length ∧ i = .int .i64 k ∧ ∃ t : ByteArray, o = .string t ∧ Pl.DecAt l k t ∧ Below w.heap.size w wr) (fun _ i _ => l.length - (intOf i).toNat)
  case atStart => exact ⟨0, Nat.zero_le _, rfl, _, rfl, Pl.DecAt.zero l, Below.refl _ _⟩
  case round =>
    obtain ⟨k, hk, rfl, t, rfl, hdec, hb⟩ := hrel
    have HD := Lib.hid hdec; have HB := Lib.hid hb; clear hdec hb
    have hts := HD.out.2.1
    by_cases hlt : k < l.length
    · obtain ⟨b, off, rfl, hsrc⟩ := (hcells.keep HB.out) k _ (ints_at l k hlt)
      have hbl : b < wr.heap.size := World.block_lt_of_cell? _ _ hsrc
      by_cases hn : Pl.isNum l[k] = false
      · have hR := Lib.hid (HD.out.no hlt (.inl hn))
        go_wp2_with ((go_at_call 15; refine (specIsNumberStroke_any _ _).mono ?_; rintro e w1 ⟨rfl, hb1⟩; have hcf := bcell hb1; have hz1 := hb1.size; (repeat (first | simp only [World.size_alloc] at hz1 hcf | simp only [size_setCell] at hz1 hcf | simp only [size_drewN] at hz1 hcf | simp only [size_drew] at hz1 hcf)); obtain ⟨hc1, hf1⟩ := hcf; (try have hn1a : _ < w1.heap.size := Nat.lt_of_lt_of_le hn1a (by omega)); (try have hn1b : _ < w1.heap.size := Nat.lt_of_lt_of_le hn1b (by omega)); (try have hn1c : _ < w1.heap.size := Nat.lt_of_lt_of_le hn1c (by omega)); (try have hn1d : _ < w1.heap.size := Nat.lt_of_lt_of_le hn1d (by omega)); (try have hn1e : _ < w1.heap.size := Nat.lt_of_lt_of_le hn1e (by omega)); (try have ho1a : _ < w1.heap.size := Nat.lt_of_lt_of_le ho1a (by omega)); (try have ho1b : _ < w1.heap.size := Nat.lt_of_lt_of_le ho1b (by omega)); (try have ho1c : _ < w1.heap.size := Nat.lt_of_lt_of_le ho1c (by omega)); (try have ho1d : _ < w1.heap.size := Nat.lt_of_lt_of_le ho1d (by omega)); (try have ho1e : _ < w1.heap.size := Nat.lt_of_lt_of_le ho1e (by omega)); (try have ho1a := hn1a); (try have ho1b := hn1b); (try have ho1c := hn1c); (try have ho1d := hn1d); (try have ho1e := hn1e); (try have hn1a := Nat.lt_of_succ_le hz1); (try have hn1b := Nat.lt_of_succ_lt hn1a); (try have hn1c := Nat.lt_of_succ_lt hn1b); (try have hn1d := Nat.lt_of_succ_lt hn1c); (try have hn1e := Nat.lt_of_succ_lt hn1d); (try have htA : w.heap.size < w1.heap.size := by omega)))
        all_goals go_ret2
        all_goals exact ⟨ret_strb hR.out.1.symm hR.out.2.symm, HB.out.trans (hb1.mono HB.out.size)⟩
      · have hn1 : Pl.isNum l[k] = true := by simpa using hn
        have hwz := Pl.written_size l[k]
        by_cases hsz : 30 < t.size + (Pl.written l[k]).size
        · have hR := Lib.hid (HD.out.no hlt (.inr hsz))
          have hsi : (30 : Int) < (t.size : Int) + ((Pl.written l[k]).size : Int) := by omega
          go_wp2_with (first | (go_at_call 15; refine (specIsNumberStroke_any _ _).mono ?_; rintro e w1 ⟨rfl, hb1⟩; have hcf := bcell hb1; have hz1 := hb1.size; (repeat (first | simp only [World.size_alloc] at hz1 hcf | simp only [size_setCell] at hz1 hcf | simp only [size_drewN] at hz1 hcf | simp only [size_drew] at hz1 hcf)); obtain ⟨hc1, hf1⟩ := hcf; (try have hn1a : _ < w1.heap.size := Nat.lt_of_lt_of_le hn1a (by omega)); (try have hn1b : _ < w1.heap.size := Nat.lt_of_lt_of_le hn1b (by omega)); (try have hn1c : _ < w1.heap.size := Nat.lt_of_lt_of_le hn1c (by omega)); (try have hn1d : _ < w1.heap.size := Nat.lt_of_lt_of_le hn1d (by omega)); (try have hn1e : _ < w1.heap.size := Nat.lt_of_lt_of_le hn1e (by omega)); (try have ho1a : _ < w1.heap.size := Nat.lt_of_lt_of_le ho1a (by omega)); (try have ho1b : _ < w1.heap.size := Nat.lt_of_lt_of_le ho1b (by omega)); (try have ho1c : _ < w1.heap.size := Nat.lt_of_lt_of_le ho1c (by omega)); (try have ho1d : _ < w1.heap.size := Nat.lt_of_lt_of_le ho1d (by omega)); (try have ho1e : _ < w1.heap.size := Nat.lt_of_lt_of_le ho1e (by omega)); (try have hn2a : _ < w1.heap.size := Nat.lt_of_lt_of_le hn2a (by omega)); (try have hn2b : _ < w1.heap.size := Nat.lt_of_lt_of_le hn2b (by omega)); (try have hn2c : _ < w1.heap.size := Nat.lt_of_lt_of_le hn2c (by omega)); (try have hn2d : _ < w1.heap.size := Nat.lt_of_lt_of_le hn2d (by omega)); (try have hn2e : _ < w1.heap.size := Nat.lt_of_lt_of_le hn2e (by omega)); (try have ho2a : _ < w1.heap.size := Nat.lt_of_lt_of_le ho2a (by omega)); (try have ho2b : _ < w1.heap.size := Nat.lt_of_lt_of_le ho2b (by omega)); (try have ho2c : _ < w1.heap.size := Nat.lt_of_lt_of_le ho2c (by omega)); (try have ho2d : _ < w1.heap.size := Nat.lt_of_lt_of_le ho2d (by omega)); (try have ho2e : _ < w1.heap.size := Nat.lt_of_lt_of_le ho2e (by omega)); (try have ho1a := hn1a); (try have ho1b := hn1b); (try have ho1c := hn1c); (try have ho1d := hn1d); (try have ho1e := hn1e); (try have hn1a := Nat.lt_of_succ_le hz1); (try have hn1b := Nat.lt_of_succ_lt hn1a); (try have hn1c := Nat.lt_of_succ_lt hn1b); (try have hn1d := Nat.lt_of_succ_lt hn1c); (try have hn1e := Nat.lt_of_succ_lt hn1d); (try have htA : w.heap.size < w1.heap.size := by omega)) | (go_at_call 74; refine (l15Digits_num hn1 _).mono ?_; rintro e w2 ⟨rfl, hb2⟩; have hcf := bcell hb2; have hz2 := hb2.size; (repeat (first | simp only [World.size_alloc] at hz2 hcf | simp only [size_setCell] at hz2 hcf | simp only [size_drewN] at hz2 hcf | simp only [size_drew] at hz2 hcf)); obtain ⟨hc2, hf2⟩ := hcf; (try have hn1a : _ < w2.heap.size := Nat.lt_of_lt_of_le hn1a (by omega)); (try have hn1b : _ < w2.heap.size := Nat.lt_of_lt_of_le hn1b (by omega)); (try have hn1c : _ < w2.heap.size := Nat.lt_of_lt_of_le hn1c (by omega)); (try have hn1d : _ < w2.heap.size := Nat.lt_of_lt_of_le hn1d (by omega)); (try have hn1e : _ < w2.heap.size := Nat.lt_of_lt_of_le hn1e (by omega)); (try have ho1a : _ < w2.heap.size := Nat.lt_of_lt_of_le ho1a (by omega)); (try have ho1b : _ < w2.heap.size := Nat.lt_of_lt_of_le ho1b (by omega)); (try have ho1c : _ < w2.heap.size := Nat.lt_of_lt_of_le ho1c (by omega)); (try have ho1d : _ < w2.heap.size := Nat.lt_of_lt_of_le ho1d (by omega)); (try have ho1e : _ < w2.heap.size := Nat.lt_of_lt_of_le ho1e (by omega)); (try have hn2a : _ < w2.heap.size := Nat.lt_of_lt_of_le hn2a (by omega)); (try have hn2b : _ < w2.heap.size := Nat.lt_of_lt_of_le hn2b (by omega)); (try have hn2c : _ < w2.heap.size := Nat.lt_of_lt_of_le hn2c (by omega)); (try have hn2d : _ < w2.heap.size := Nat.lt_of_lt_of_le hn2d (by omega)); (try have hn2e : _ < w2.heap.size := Nat.lt_of_lt_of_le hn2e (by omega)); (try have ho2a : _ < w2.heap.size := Nat.lt_of_lt_of_le ho2a (by omega)); (try have ho2b : _ < w2.heap.size := Nat.lt_of_lt_of_le ho2b (by omega)); (try have ho2c : _ < w2.heap.size := Nat.lt_of_lt_of_le ho2c (by omega)); (try have ho2d : _ < w2.heap.size := Nat.lt_of_lt_of_le ho2d (by omega)); (try have ho2e : _ < w2.heap.size := Nat.lt_of_lt_of_le ho2e (by omega)); (try have ho2a := hn2a); (try have ho2b := hn2b); (try have ho2c := hn2c); (try have ho2d := hn2d); (try have ho2e := hn2e); (try have hn2a := Nat.lt_of_succ_le hz2); (try have hn2b := Nat.lt_of_succ_lt hn2a); (try have hn2c := Nat.lt_of_succ_lt hn2b); (try have hn2d := Nat.lt_of_succ_lt hn2c); (try have hn2e := Nat.lt_of_succ_lt hn2d); (try have htA : w.heap.size < w2.heap.size := by omega)))
          all_goals go_ret2
          all_goals exact ⟨ret_strb hR.out.1.symm hR.out.2.symm, HB.out.trans ((hb1.trans (hb2.mono hb1.size)).mono HB.out.size)⟩
        · have hS := Lib.hid (HD.out.succ hlt hn1 (by omega))
          have hsi : ¬ (30 : Int) < (t.size : Int) + ((Pl.written l[k]).size : Int) := by omega
          go_wp2_with (first | (go_at_call 15; refine (specIsNumberStroke_any _ _).mono ?_; rintro e w1 ⟨rfl, hb1⟩; have hcf := bcell hb1; have hz1 := hb1.size; (repeat (first | simp only [World.size_alloc] at hz1 hcf | simp only [size_setCell] at hz1 hcf | simp only [size_drewN] at hz1 hcf | simp only [size_drew] at hz1 hcf)); obtain ⟨hc1, hf1⟩ := hcf; (try have hn1a : _ < w1.heap.size := Nat.lt_of_lt_of_le hn1a (by omega)); (try have hn1b : _ < w1.heap.size := Nat.lt_of_lt_of_le hn1b (by omega)); (try have hn1c : _ < w1.heap.size := Nat.lt_of_lt_of_le hn1c (by omega)); (try have hn1d : _ < w1.heap.size := Nat.lt_of_lt_of_le hn1d (by omega)); (try have hn1e : _ < w1.heap.size := Nat.lt_of_lt_of_le hn1e (by omega)); (try have ho1a : _ < w1.heap.size := Nat.lt_of_lt_of_le ho1a (by omega)); (try have ho1b : _ < w1.heap.size := Nat.lt_of_lt_of_le ho1b (by omega)); (try have ho1c : _ < w1.heap.size := Nat.lt_of_lt_of_le ho1c (by omega)); (try have ho1d : _ < w1.heap.size := Nat.lt_of_lt_of_le ho1d (by omega)); (try have ho1e : _ < w1.heap.size := Nat.lt_of_lt_of_le ho1e (by omega)); (try have hn2a : _ < w1.heap.size := Nat.lt_of_lt_of_le hn2a (by omega)); (try have hn2b : _ < w1.heap.size := Nat.lt_of_lt_of_le hn2b (by omega)); (try have hn2c : _ < w1.heap.size := Nat.lt_of_lt_of_le hn2c (by omega)); (try have hn2d : _ < w1.heap.size := Nat.lt_of_lt_of_le hn2d (by omega)); (try have hn2e : _ < w1.heap.size := Nat.lt_of_lt_of_le hn2e (by omega)); (try have ho2a : _ < w1.heap.size := Nat.lt_of_lt_of_le ho2a (by omega)); (try have ho2b : _ < w1.heap.size := Nat.lt_of_lt_of_le ho2b (by omega)); (try have ho2c : _ < w1.heap.size := Nat.lt_of_lt_of_le ho2c (by omega)); (try have ho2d : _ < w1.heap.size := Nat.lt_of_lt_of_le ho2d (by omega)); (try have ho2e : _ < w1.heap.size := Nat.lt_of_lt_of_le ho2e (by omega)); (try have ho1a := hn1a); (try have ho1b := hn1b); (try have ho1c := hn1c); (try have ho1d := hn1d); (try have ho1e := hn1e); (try have hn1a := Nat.lt_of_succ_le hz1); (try have hn1b := Nat.lt_of_succ_lt hn1a); (try have hn1c := Nat.lt_of_succ_lt hn1b); (try have hn1d := Nat.lt_of_succ_lt hn1c); (try have hn1e := Nat.lt_of_succ_lt hn1d); (try have htA : w.heap.size < w1.heap.size := by omega)) | (go_at_call 74; refine (l15Digits_num hn1 _).mono ?_; rintro e w2 ⟨rfl, hb2⟩; have hcf := bcell hb2; have hz2 := hb2.size; (repeat (first | simp only [World.size_alloc] at hz2 hcf | simp only [size_setCell] at hz2 hcf | simp only [size_drewN] at hz2 hcf | simp only [size_drew] at hz2 hcf)); obtain ⟨hc2, hf2⟩ := hcf; (try have hn1a : _ < w2.heap.size := Nat.lt_of_lt_of_le hn1a (by omega)); (try have hn1b : _ < w2.heap.size := Nat.lt_of_lt_of_le hn1b (by omega)); (try have hn1c : _ < w2.heap.size := Nat.lt_of_lt_of_le hn1c (by omega)); (try have hn1d : _ < w2.heap.size := Nat.lt_of_lt_of_le hn1d (by omega)); (try have hn1e : _ < w2.heap.size := Nat.lt_of_lt_of_le hn1e (by omega)); (try have ho1a : _ < w2.heap.size := Nat.lt_of_lt_of_le ho1a (by omega)); (try have ho1b : _ < w2.heap.size := Nat.lt_of_lt_of_le ho1b (by omega)); (try have ho1c : _ < w2.heap.size := Nat.lt_of_lt_of_le ho1c (by omega)); (try have ho1d : _ < w2.heap.size := Nat.lt_of_lt_of_le ho1d (by omega)); (try have ho1e : _ < w2.heap.size := Nat.lt_of_lt_of_le ho1e (by omega)); (try have hn2a : _ < w2.heap.size := Nat.lt_of_lt_of_le hn2a (by omega)); (try have hn2b : _ < w2.heap.size := Nat.lt_of_lt_of_le hn2b (by omega)); (try have hn2c : _ < w2.heap.size := Nat.lt_of_lt_of_le hn2c (by omega)); (try have hn2d : _ < w2.heap.size := Nat.lt_of_lt_of_le hn2d (by omega)); (try have hn2e : _ < w2.heap.size := Nat.lt_of_lt_of_le hn2e (by omega)); (try have ho2a : _ < w2.heap.size := Nat.lt_of_lt_of_le ho2a (by omega)); (try have ho2b : _ < w2.heap.size := Nat.lt_of_lt_of_le ho2b (by omega)); (try have ho2c : _ < w2.heap.size := Nat.lt_of_lt_of_le ho2c (by omega)); (try have ho2d : _ < w2.heap.size := Nat.lt_of_lt_of_le ho2d (by omega)); (try have ho2e : _ < w2.heap.size := Nat.lt_of_lt_of_le ho2e (by omega)); (try have ho2a := hn2a); (try have ho2b := hn2b); (try have ho2c := hn2c); (try have ho2d := hn2d); (try have ho2e := hn2e); (try have hn2a := Nat.lt_of_succ_le hz2); (try have hn2b := Nat.lt_of_succ_lt hn2a); (try have hn2c := Nat.lt_of_succ_lt hn2b); (try have hn2d := Nat.lt_of_succ_lt hn2c); (try have hn2e := Nat.lt_of_succ_lt hn2d); (try have htA : w.heap.size < w2.heap.size := by omega)))
          go_roundw
          case rel => exact ⟨k + 1, by omega, by go_num, _, rfl, hS.out, HB.out.trans ((hb1.trans (hb2.mono hb1.size)).mono HB.out.size)⟩
          case measure => simp [intOf]; omega
    · have hR := Lib.hid (HD.out.done (by omega))
      have hli : l.length = k := by omega
      go_wp2
      all_goals go_ret2
      all_goals exact ⟨ret_strb hR.out.1.symm (by rw [hR.out.2.2]; subst hli; simp), HB.out⟩

end Go.Proofs.Ytmlckocmfoiobaa
