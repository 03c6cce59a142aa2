/-
  CONTRACTS: the search of a slice by a predicate (slices.IndexFunc, slices.ContainsFunc) at strings and at integers; endsWith; all.
-/
import Derived.Test.YtibchndfndgdeaaSl
import Derived.Test.YtibchndfndgdeaaVowel
import Derived.Test.YtibchndfndgdeaaPlainSpell
import Derived.Deep.QuietTactic
import Derived.BigQuiet
import Derived.Lib.SmallJoins
namespace Go.Proofs.Ytibchndfndgdeaa
open Go.RowKit

/-- the cells of a list of strings -/
def strs (l : List ByteArray) : List Value := l.map Value.string
theorem strs_length (l : List ByteArray) : (strs l).length = l.length := by simp [strs]
theorem strs_at (l : List ByteArray) (k : Nat) (h : k < l.length) : (strs l)[k]? = some (.string l[k]) := by
  simp [strs, List.getElem?_map, List.getElem?_eq_getElem h]

theorem any_take_hit {α : Type} (p : α → Bool) (l : List α) (k : Nat) (h : k < l.length) (y : α) (hy : l[k] = y) (hp : p y = true) : l.any p = true := by
  subst hy
  exact List.any_eq_true.2 ⟨_, List.getElem_mem h, hp⟩
theorem any_take_next {α : Type} (p : α → Bool) (l : List α) (k : Nat) (h : k < l.length) (y : α) (hy : l[k] = y) (hp : p y = false) (ha : (l.take k).any p = false) : (l.take (k + 1)).any p = false := by
  subst hy
  rw [List.take_add_one, List.getElem?_eq_getElem h, List.any_append, ha]
  simp [hp]
theorem any_take_all {α : Type} (p : α → Bool) (l : List α) (k : Nat) (h : k = l.length) (ha : (l.take k).any p = false) : l.any p = false := by
  subst h
  rwa [List.take_of_length_le (Nat.le_refl _)] at ha

set_option maxHeartbeats 800000 in
theorem IndexFuncI_any (p : Int → Bool) (g : Nat) (lb : Array Value) (eg : ∀ args w, (callFunc g args).run Try.prog w = .ok (.enter g args) w) (v : Value) (l : List Int) (w : World) (hr : Rows w v l.length 1 (ints l)) (hl : l.length ≤ 1048576)
    (hp : ∀ (n : Nat) (x : Int), Calls Try.prog g (#[(Value.int .i64) x] ++ lb) (w.drewN n) fun e w' => e = .returned (.bool (p x)) ∧ Drew w w') :
    Calls Try.prog 48 #[v, .func (.func g) #[] lb] w fun e w' => (∃ r : Int, e = .returned (.int .i64 r) ∧ decide (0 ≤ r) = l.any p) ∧ Drew w w' := by
  obtain ⟨a, cap, rfl, _, _, _, _, hcells⟩ := hr
  have HP := Lib.hid hp; clear hp
  go_enter Try.func48, Try.ntmps48
  go_wp2
  go_loopw [5, 8] (fun _ i wr => ∃ k : Nat, k ≤ l.length ∧ i = .int .i64 k ∧ (∃ n, wr = w.drewN n) ∧ Hid ((l.take k).any p = false)) (fun _ i _ => l.length - (intOf i).toNat)
  case atStart => exact ⟨0, Nat.zero_le _, rfl, ⟨0, rfl⟩, Lib.hid (by simp)⟩
  case round =>
    obtain ⟨k, hk, rfl, ⟨n, rfl⟩, HA⟩ := hrel
    by_cases hlt : k < l.length
    · obtain ⟨b, off, rfl, hsrc⟩ := hcells k _ (ints_at l k hlt)
      have hki : (k : Int) < (l.length : Int) := by omega
      have hcall := HP.out n l[k]
      generalize hy : l[k] = y at hsrc hcall
      have HY := Lib.hid hy; clear hy
      cases hq : p y
      · rw [hq] at hcall
        have HQ := Lib.hid (any_take_next p l k hlt y HY.out hq HA.out)
        clear HY hq HA
        go_wp2_with (go_at_fn g; refine hcall.mono ?_; rintro e w' ⟨rfl, n', rfl⟩)
        go_roundw
        case rel => exact ⟨k + 1, by omega, by go_num, ⟨n', rfl⟩, HQ⟩
        case measure => simp [intOf]; omega
      · rw [hq] at hcall
        have HQ := Lib.hid (any_take_hit p l k hlt y HY.out hq)
        clear HY hq HA
        go_wp2_with (go_at_fn g; refine hcall.mono ?_; rintro e w' ⟨rfl, n', rfl⟩)
        go_ret
        exact ⟨⟨k, rfl, by rw [HQ.out]; simp⟩, n', rfl⟩
    · have HQ := Lib.hid (any_take_all p l k (by omega) HA.out)
      have hki : ¬ (k : Int) < (l.length : Int) := by omega
      clear HA
      go_wp2
      go_ret
      exact ⟨⟨-1, rfl, by rw [HQ.out]; simp⟩, n, rfl⟩

theorem ContainsFuncI_any (p : Int → Bool) (g : Nat) (lb : Array Value) (eg : ∀ args w, (callFunc g args).run Try.prog w = .ok (.enter g args) w) (v : Value) (l : List Int) (w : World) (hr : Rows w v l.length 1 (ints l)) (hl : l.length ≤ 1048576)
    (hp : ∀ (n : Nat) (x : Int), Calls Try.prog g (#[(Value.int .i64) x] ++ lb) (w.drewN n) fun e w' => e = .returned (.bool (p x)) ∧ Drew w w') :
    Calls Try.prog 37 #[v, .func (.func g) #[] lb] w fun e w' => e = .returned (.bool (l.any p)) ∧ Drew w w' := by
  have H := Lib.hid (IndexFuncI_any p g lb eg v l w hr hl hp)
  clear hr hp
  go_enter Try.func37, Try.ntmps37
  go_wp2_with (go_at_call 48; refine H.out.mono ?_; rintro e w' ⟨⟨r, rfl, hd⟩, n, rfl⟩)
  go_ret
  exact ⟨by first | exact ret_bool hd | rfl, n, rfl⟩

set_option maxHeartbeats 800000 in
theorem allI_any (p : Int → Bool) (g : Nat) (eg : ∀ args w, (callFunc g args).run Try.prog w = .ok (.enter g args) w) (v : Value) (l : List Int) (w : World) (hr : Rows w v l.length 1 (ints l)) (hl : l.length ≤ 1048576)
    (hp : ∀ (W : World) (x : Int), Calls Try.prog g #[.int .i64 x] W fun e w' => e = .returned (.bool (p x)) ∧ W = w') :
    Calls Try.prog 23 #[v, .func (.func g) #[] #[]] w fun e w' => e = .returned (.bool (l.all p)) ∧ Below w.heap.size w w' := by
  have H := Lib.hid (ContainsFuncI_any (fun x => !p x) 38 #[.pointer (some ⟨w.heap.size, 0, none⟩)] (enters_of Try.func38 (by kernel_rfl) rfl) v l (w.alloc (.cells #[.func (.func g) #[] #[]] 50)) (hr.keep (Joins.below_alloc1 w _)) hl (fun n x => by
    show Calls Try.prog 38 #[.int .i64 x, .pointer (some ⟨w.heap.size, 0, none⟩)] _ _
    have hc : (w.alloc (.cells #[.func (.func g) #[] #[]] 50)).cell? ⟨w.heap.size, 0, none⟩ = some (.func (.func g) #[] #[]) := by simp
    generalize w.alloc (.cells #[.func (.func g) #[] #[]] 50) = W at hc ⊢
    have hcall := Lib.hid (hp (W.drewN n) x)
    clear hp
    go_enter Try.func38, Try.ntmps38
    go_wp2_with (go_at_fn g; refine hcall.out.mono ?_; rintro e w' ⟨rfl, rfl⟩)
    go_ret
    exact ⟨rfl, n, rfl⟩))
  have HB := Lib.hid (Joins.below_alloc1 w (.cells #[.func (.func g) #[] #[]] 50))
  have hall : Hid ((!l.any fun x => !p x) = l.all p) := Lib.hid (by simp [List.all_eq_not_any_not])
  clear hr hp
  go_enter Try.func23, Try.ntmps23
  go_wp2_with (go_at_call 37; refine H.out.mono ?_; rintro e w' ⟨rfl, n, rfl⟩)
  go_ret
  exact ⟨ret_bool hall.out, HB.out.trans (Joins.below_draws _ _ n)⟩

end Go.Proofs.Ytibchndfndgdeaa
