/-
  CONTRACTS: CountUntranslated of the program and of the reference.
-/
import Derived.Test.YtmlckocmfoiobaaPieceS
import Derived.Laws.AppendOwn
import Derived.OwnWalk
namespace Go.Proofs.Ytmlckocmfoiobaa
open Go.RowKit

/-- how many of the first k elements meet p -/
def Pl.cntTo (p : Int × Int × ByteArray → Bool) (l : List (Int × Int × ByteArray)) (k : Nat) : Nat := ((l.take k).filter p).length
theorem Pl.cnt_zero (p : Int × Int × ByteArray → Bool) (l : List (Int × Int × ByteArray)) : Pl.cntTo p l 0 = 0 := by simp [Pl.cntTo]
theorem Pl.cnt_le (p : Int × Int × ByteArray → Bool) (l : List (Int × Int × ByteArray)) (k : Nat) : Pl.cntTo p l k ≤ k := by
  unfold Pl.cntTo
  exact Nat.le_trans (List.length_filter_le _ _) (by simp; omega)
theorem Pl.cnt_yes {p : Int × Int × ByteArray → Bool} {l : List (Int × Int × ByteArray)} {k : Nat} (h : k < l.length) (hp : p l[k] = true) : Pl.cntTo p l (k + 1) = Pl.cntTo p l k + 1 := by
  unfold Pl.cntTo
  rw [List.take_add_one, List.getElem?_eq_getElem h, List.filter_append, List.length_append]
  simp [hp]
theorem Pl.cnt_no {p : Int × Int × ByteArray → Bool} {l : List (Int × Int × ByteArray)} {k : Nat} (h : k < l.length) (hp : p l[k] = false) : Pl.cntTo p l (k + 1) = Pl.cntTo p l k := by
  unfold Pl.cntTo
  rw [List.take_add_one, List.getElem?_eq_getElem h, List.filter_append, List.length_append]
  simp [hp]
/-- the piece has no text -/
def Pl.bare (q : Int × Int × ByteArray) : Bool := q.2.2.toList.isEmpty

set_option maxHeartbeats 800000 in
theorem specCountUntranslated_any (v : Value) (l : List (Int × Int × ByteArray)) (w : World) (hr : Rows w v l.length 3 (pieces l)) (hl : l.length ≤ 1048576) :
    Calls Try.prog 30 #[v] w fun e w' => e = .returned (.int .i64 (Pl.cntTo Pl.bare l l.length : Nat)) ∧ w = w' := by
  obtain ⟨a, cap, rfl, _, _, _, _, hcells⟩ := hr
  have HC := Lib.hid hcells; clear hcells
  go_enter Try.func30, Try.ntmps30
  go_wp2
  go_loop [3, 4] (fun n i => ∃ k : Nat, k ≤ l.length ∧ i = .int .i64 k ∧ n = .int .i64 (Pl.cntTo Pl.bare l k : Nat)) (fun _ i => l.length - (intOf i).toNat)
  case atStart => exact ⟨0, Nat.zero_le _, rfl, by rw [Pl.cnt_zero]; rfl⟩
  case round =>
    obtain ⟨k, hk, rfl, rfl⟩ := hrel
    have hcl := Pl.cnt_le Pl.bare l k
    by_cases hlt : k < l.length
    · obtain ⟨b, off, rfl, c1, c2, c3⟩ := piece_cells HC.out k hlt
      have hki : (k : Int) < (l.length : Int) := by omega
      have hk0 : (0 : Int) ≤ (k : Int) := by omega
      have HY := Lib.hid (Pl.cnt_yes (p := Pl.bare) hlt)
      have HN := Lib.hid (Pl.cnt_no (p := Pl.bare) hlt)
      generalize Pl.cntTo Pl.bare l k = n at hcl HY HN ⊢
      generalize l[k] = q at c1 c2 c3 HY HN
      obtain ⟨qa, qm, qt⟩ := q
      cases hq : qt.toList.isEmpty
      · have HN2 := Lib.hid (HN.out hq)
        clear HY HN
        go_wp2
        go_round
        case rel => exact ⟨k + 1, by omega, by go_num, by rw [HN2.out]⟩
        case measure => simp [intOf]; omega
      · have HY2 := Lib.hid (HY.out hq)
        clear HY HN
        go_wp2
        go_round
        case rel => exact ⟨k + 1, by omega, by go_num, by rw [HY2.out]; go_num⟩
        case measure => simp [intOf]; omega
    · obtain rfl : k = l.length := by omega
      go_wp2
      go_ret
      exact ⟨rfl, rfl⟩

/-- an append of one piece to a row of the call's own -/
theorem app_piece {ops : Array Oper} {rest : List Oper} {o : Oper} {a : Act} {w : World} {Q : Exit → Act → World → Prop} (hgd : o.guard = none) (s x : Operand)
    (ho : o.op = .call { callee := .builtin .append, args := #[s, x], argTypes := #[46, 46] })
    (base : Nat) (v : Value) (n : Nat) (xs : List Value) (hs : a.eval s = v) (hown : w.ownsRow base 85 3 v n xs)
    (ad : Addr) (c : Nat) (qa qm : Int) (qt : ByteArray) (hx : a.eval x = .slice (some ad) 1 c) (hnews : ∀ j u, [Value.int .i64 qa, .int .i64 qm, .string qt][j]? = some u → w.cell? (ad.add j) = some u)
    (hnm : n + 1 ≤ 4194304) (hbase : base ≤ w.heap.size)
    (h : ∀ v' w', w'.ownsRow base 85 3 v' (n + 1) (xs ++ [Value.int .i64 qa, .int .i64 qm, .string qt]) → w.grownBy w' v.ownBlock → wpList Try.prog ops Q rest (a.put o.dst v') w') : wpList Try.prog ops Q (o :: rest) a w := by
  obtain ⟨i0, hi, hz0, hz1, hz2⟩ := info_parts Try.infoPiece
  exact wpList_append_own w hgd s x 46 ho base 85 i0 (.agg #[.int .i64 0, .int .i64 0, .string ⟨#[]⟩]) 3 32 Try.underlying46 hi hz0 hz1 hz2 rfl (by decide) v n xs hs hown ad 1 c [Value.int .i64 qa, .int .i64 qm, .string qt] hx rfl hnews
    (by intro u hu; simp only [List.mem_cons, List.not_mem_nil, or_false] at hu; rcases hu with rfl | rfl | rfl <;> rfl)
    (by unfold maxLen; omega) (by omega) hbase (fun v' w' h1 h2 _ => h v' w' h1 h2)

theorem piece_news (w : World) (qa qm : Int) (qt : ByteArray) (E : TypeId) : ∀ j u, [Value.int .i64 qa, .int .i64 qm, .string qt][j]? = some u → (w.alloc (.cells #[.int .i64 qa, .int .i64 qm, .string qt] E)).cell? ((⟨w.heap.size, 0, none⟩ : Addr).add j) = some u := by
  intro j u hj
  rw [Addr.add_lit, Nat.zero_add, World.cell?_alloc_mark]
  simpa using hj

set_option maxHeartbeats 400000 in
theorem bare_any (qa qm : Int) (qt : ByteArray) (w : World) :
    Calls Try.prog 72 #[.agg #[.int .i64 qa, .int .i64 qm, .string qt]] w fun e w' => e = .returned (.bool (Pl.bare (qa, qm, qt))) ∧ Below w.heap.size w w' := by
  have HB := Lib.hid (Joins.below_alloc1 w (.cells #[.int .i64 qa, .int .i64 qm, .string qt] 85))
  go_enter Try.func72, Try.ntmps72
  go_wp2
  go_ret
  exact ⟨rfl, HB.out⟩

theorem below_pastP {W w' : World} {o : Obj} (h1 : Below (W.alloc o).heap.size (W.alloc o) w') : Below W.heap.size W w' :=
  (Joins.below_alloc1 W o).trans (h1.mono (Joins.below_alloc1 W o).size)

set_option maxHeartbeats 1600000 in
theorem filterP_any (p : Int × Int × ByteArray → Bool) (g : Nat) (eg : ∀ args w, (callFunc g args).run Try.prog w = .ok (.enter g args) w) (v : Value) (l : List (Int × Int × ByteArray)) (w : World) (hr : Rows w v l.length 3 (pieces l)) (hl : l.length ≤ 1048576)
    (hp : ∀ (W : World) (qa qm : Int) (qt : ByteArray), Calls Try.prog g #[.agg #[.int .i64 qa, .int .i64 qm, .string qt]] W fun e w' => e = .returned (.bool (p (qa, qm, qt))) ∧ Below W.heap.size W w') :
    Calls Try.prog 71 #[v, .func (.func g) #[] #[]] w fun e w' => (∃ vo xs, e = .returned vo ∧ w'.ownsRow w.heap.size 85 3 vo (Pl.cntTo p l l.length) xs) ∧ Below w.heap.size w w' := by
  obtain ⟨a, cap, rfl, _, _, _, _, hcells⟩ := hr
  have HC := Lib.hid hcells; have HP := Lib.hid hp
  have HO := Lib.hid (World.ownsRow_made (base := w.heap.size) (e := 85) (size := 3) w #[] 0 (Nat.le_refl _) (by unfold maxLen; omega) rfl)
  have HB := Lib.hid (Joins.below_alloc1 w (.cells #[] 85))
  clear hcells hp
  go_enter Try.func71, Try.ntmps71
  go_wp2
  go_loopw [5, 7, 11] (fun out _ i wr => ∃ (k : Nat) (xs : List Value), k ≤ l.length ∧ i = .int .i64 k ∧ wr.ownsRow w.heap.size 85 3 out (Pl.cntTo p l k) xs ∧ Below w.heap.size w wr) (fun _ _ i _ => l.length - (intOf i).toNat)
  case atStart => exact ⟨0, [], Nat.zero_le _, rfl, by rw [Pl.cnt_zero]; exact HO.out, HB.out⟩
  clear HO HB
  case round =>
    obtain ⟨k, xs, hk, rfl, hown, hb⟩ := hrel
    have HO := Lib.hid hown; have HB := Lib.hid hb; clear hown hb
    have hcl := Pl.cnt_le p l k
    by_cases hlt : k < l.length
    · obtain ⟨b, off, rfl, c1, c2, c3⟩ := piece_cells (HC.out.keep HB.out) k hlt
      have hki : (k : Int) < (l.length : Int) := by omega
      have HY := Lib.hid (Pl.cnt_yes (p := p) hlt)
      have HN := Lib.hid (Pl.cnt_no (p := p) hlt)
      generalize Pl.cntTo p l k = n at hcl HY HN HO
      generalize l[k] = q at c1 c2 c3 HY HN
      obtain ⟨qa, qm, qt⟩ := q
      cases hq : p (qa, qm, qt)
      · have HN2 := Lib.hid (HN.out hq)
        clear HY HN
        go_wp2_with (go_at_fn g; refine (HP.out _ _ _ _).mono ?_; rintro e w1 ⟨he, hb1⟩; rw [hq] at he; subst he)
        go_roundw
        case rel => exact ⟨k + 1, xs, by omega, by go_num, by rw [HN2.out]; exact own_keep HO.out (below_pastP hb1), HB.out.trans ((below_pastP hb1).mono HB.out.size)⟩
        case measure => simp [intOf]; omega
      · have HY2 := Lib.hid (HY.out hq)
        clear HY HN
        go_wp2_with (first
          | (at_builtin; have HO2 := HO1; refine app_piece rfl _ _ rfl w.heap.size _ n xs rfl (HO2.out.alloc _) ⟨_, 0, none⟩ 1 qa qm qt rfl (piece_news _ qa qm qt _) (by omega) (by have := HB1.out.size; simp; omega) ?_; intro v2 w2 hown2 hg2)
          | (go_at_fn g; refine (HP.out _ _ _ _).mono ?_; rintro e w1 ⟨he, hb1⟩; rw [hq] at he; subst he; have da := keepc hb1 (b := wr.heap.size) (o := 0) (u := .int .i64 qa) (by simp); have db := keepc hb1 (b := wr.heap.size) (o := 1) (u := .int .i64 qm) (by simp); have dc := keepc hb1 (b := wr.heap.size) (o := 2) (u := .string qt) (by simp); have HO1 := Lib.hid (own_keep HO.out (below_pastP hb1)); have HB1 := Lib.hid (HB.out.trans ((below_pastP hb1).mono HB.out.size)); clear hb1))
        have HB2 := Lib.hid ((HB1.out.alloc HB1.out.size (.cells #[.int .i64 qa, .int .i64 qm, .string qt] 85)).grown hg2 (by have := HB1.out.size; simp; omega) (fun j hj => (HO1.out.lt j hj).1))
        have HO2 := Lib.hid hown2
        clear HB HO HB1 HO1 hown2 hg2
        go_roundw
        case rel => exact ⟨k + 1, _, by omega, by go_num, by rw [HY2.out]; exact HO2.out, HB2.out⟩
        case measure => simp [intOf]; omega
    · obtain rfl : k = l.length := by omega
      go_wp2
      go_ret
      exact ⟨⟨_, xs, rfl, HO.out⟩, HB.out⟩

theorem row_form {w : World} {base size n : Nat} {e : TypeId} {v : Value} {xs : List Value} (h : w.ownsRow base e size v n xs) : ∃ ao co, v = .slice ao n co := by
  rcases Joins.ownsRow_forms h with ⟨h1, h2⟩ | ⟨g, c, h1⟩
  · exact ⟨none, 0, by rw [h1, h2]⟩
  · exact ⟨_, c, h1⟩

set_option maxHeartbeats 400000 in
theorem CountUntranslated_any (v : Value) (l : List (Int × Int × ByteArray)) (w : World) (hr : Rows w v l.length 3 (pieces l)) (hl : l.length ≤ 1048576) :
    Calls Try.prog 32 #[v] w fun e w' => e = .returned (.int .i64 (Pl.cntTo Pl.bare l l.length : Nat)) ∧ Below w.heap.size w w' := by
  have H := Lib.hid (filterP_any Pl.bare 72 (enters_of Try.func72 (by kernel_rfl) rfl) v l w hr hl (fun W qa qm qt => bare_any qa qm qt W))
  clear hr
  go_enter Try.func32, Try.ntmps32
  go_wp2_with (go_at_call 71; refine H.out.mono ?_; rintro e w1 ⟨⟨vo, xs, rfl, hown⟩, hb1⟩; obtain ⟨ao, co, rfl⟩ := row_form hown)
  go_ret
  exact ⟨rfl, hb1⟩

end Go.Proofs.Ytmlckocmfoiobaa
