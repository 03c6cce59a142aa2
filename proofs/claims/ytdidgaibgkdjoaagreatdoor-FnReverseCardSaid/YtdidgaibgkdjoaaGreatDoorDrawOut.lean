/-
  CONTRACTS: the draws of strokes and outlines: few, stroke, anyStroke, outline, anyOutline. Of what is drawn only the length is told.
-/
import Derived.Test.YtdidgaibgkdjoaaGreatDoorDrawSeq
import Derived.Laws.AppendOwn
import Derived.Deep.DeepCutAuto
namespace Go.Proofs.YtdidgaibgkdjoaaGreatDoor
open Go.RowKit

theorem Tryz.infoOut : (Tryz.prog.info? 3).map (fun i => (i.zero, i.size, i.bytes)) = some (some (.int .i64 0), 1, 8) := by kernel_rfl
/-- an append of one number to a row of the call's own -/
theorem app_out {ops : Array Oper} {rest : List Oper} {o : Oper} {a : Act} {w : World} {Q : Exit → Act → World → Prop} (hgd : o.guard = none) (s x : Operand)
    (ho : o.op = .call { callee := .builtin .append, args := #[s, x], argTypes := #[36, 36] })
    (base : Nat) (v : Value) (n : Nat) (xs : List Value) (hs : a.eval s = v) (hown : w.ownsRow base 3 1 v n xs)
    (ad : Addr) (c : Nat) (q : Int) (hx : a.eval x = .slice (some ad) 1 c) (hnews : ∀ j u, [Value.int .i64 q][j]? = some u → w.cell? (ad.add j) = some u)
    (hnm : n + 1 ≤ 4194304) (hbase : base ≤ w.heap.size)
    (h : ∀ v' w', w'.ownsRow base 3 1 v' (n + 1) (xs ++ [Value.int .i64 q]) → w.grownBy w' v.ownBlock → wpList Tryz.prog ops Q rest (a.put o.dst v') w') : wpList Tryz.prog ops Q (o :: rest) a w := by
  obtain ⟨i0, hi, hz0, hz1, hz2⟩ := info_parts Tryz.infoOut
  exact wpList_append_own w hgd s x 36 ho base 3 i0 (.int .i64 0) 1 8 Tryz.underlying36 hi hz0 hz1 hz2 rfl (by decide) v n xs hs hown ad 1 c [Value.int .i64 q] hx rfl hnews
    (by intro u hu; simp only [List.mem_cons, List.not_mem_nil, or_false] at hu; rcases hu with rfl <;> rfl)
    (by unfold maxLen; omega) (by omega) hbase (fun v' w' h1 h2 _ => h v' w' h1 h2)
theorem out_news (w : World) (q : Int) (E : TypeId) (b : Nat) (hb : b = w.heap.size) : ∀ j u, [Value.int .i64 q][j]? = some u → (w.alloc (.cells #[.int .i64 q] E)).cell? ((⟨b, 0, none⟩ : Addr).add j) = some u := by
  subst hb
  intro j u hj
  rw [Addr.add_lit, Nat.zero_add, World.cell?_alloc_mark]
  simpa using hj
theorem row_formO {w : World} {base size n : Nat} {e : TypeId} {v : Value} {xs : List Value} (h : w.ownsRow base e size v n xs) : ∃ ao co, v = .slice ao n co := by
  rcases h.2 with ⟨rfl, rfl⟩ | ⟨g, c', u', rfl, _⟩
  · exact ⟨none, 0, rfl⟩
  · exact ⟨_, _, rfl⟩
/-- a row of numbers, in new memory -/
def DrawnO (v : Value) (m g B : Nat) (w w0 : World) (least most : Nat) (e : Ending) (w' : World) : Prop :=
  (∃ (la lc : Nat) (l : List Int), e = .returned (.slice (some ⟨la, 0, none⟩) l.length lc) ∧ w'.ownsRow w.heap.size 3 1 (.slice (some ⟨la, 0, none⟩) l.length lc) l.length (ints l) ∧ least ≤ l.length ∧ l.length ≤ most) ∧ Read v m g B w0 w'

set_option maxHeartbeats 800000 in
theorem few_any {v : Value} {m g B : Nat} {w0 w : World} (h : Read v m g B w0 w) (hB : B ≤ 900000000) :
    Calls Tryz.prog 139 #[.pointer (some ⟨g, 0, none⟩)] w (DrawnI v m g (B + 2) w0 (fun _ => True)) := by
  have HD := Lib.hid h; clear h
  go_enter Tryz.func139, Tryz.ntmps139
  go_wp2_with ((go_at_call 111; refine (among_lit [524552, 260, 1048576, 262144] (fun _ => True) (by repeat (first | with_reducible exact HD.out | with_reducible apply Read.alloc | with_reducible apply Read.to)) (by omega) (by decide) (by decide) (by simp) _).mono ?_; rintro e w' ⟨⟨ia, rfl, hia1, hia2⟩, hd⟩; replace HD := Lib.hid hd; clear hd))
  go_ret
  exact ⟨⟨_, rfl, trivial⟩, HD.out⟩

set_option maxHeartbeats 800000 in
theorem stroke_any {v : Value} {m g B : Nat} {w0 w : World} (h : Read v m g B w0 w) (hB : B ≤ 900000000) :
    Calls Tryz.prog 168 #[.pointer (some ⟨g, 0, none⟩)] w (DrawnI v m g (B + 20) w0 (fun _ => True)) := by
  have HD := Lib.hid (Read.refl h.1)
  have HH := Lib.hid h
  clear h
  go_enter Tryz.func168, Tryz.ntmps168
  go_wp2_with (first
    | (go_at_call 45; have hx := H1; refine (pick_any 4 (Read.refl H1.out.1) (by omega) (by decide) (by decide)).mono ?_; rintro e w2 ⟨⟨r, rfl, hr⟩, hd⟩; have H2 := Lib.hid (H1.out.trans hd); clear hd hx)
    | (go_at_call 111; have hx := H1; refine (among_lit [524552, 260, 1048576, 262144, 4194304, 514, 8, 2064, 2097152] (fun _ => True) (Read.refl H1.out.1) (by omega) (by decide) (by decide) (by simp) _).mono ?_; rintro e w2 ⟨⟨x, rfl, _⟩, hd⟩; have H2 := Lib.hid (H1.out.trans hd); clear hd hx)
    | (go_at_call 44; refine (one_any 2 HD.out (by omega) (by decide) (by decide)).mono ?_; rintro e w1 ⟨⟨ba, rfl⟩, hd⟩; have H1 := Lib.hid hd; clear hd))
  · go_ret
    exact ⟨⟨_, rfl, trivial⟩, HH.out.trans (H2.out.mono (show B + 2 + 2 ≤ B + 20 by omega))⟩
  · go_loopw [3, 4] (fun s n wr => ∃ (x : Int) (k : Nat), s = .int .i64 x ∧ n = .int .i64 k ∧ k ≤ 4 ∧ Read v m g (B + 4 + 2 * (4 - k)) w wr) (fun _ n _ => (intOf n).toNat)
    case atStart => exact ⟨0, 1 + r, rfl, by go_num, by omega, H2.out.mono (show B + 2 + 2 ≤ B + 4 + 2 * (4 - (1 + r)) by omega)⟩
    case round =>
      obtain ⟨x, k, rfl, rfl, hk, hd⟩ := hrel
      have H := Lib.hid hd; clear hd
      by_cases h0 : 0 < k
      · have hk1 : (0 : Int) < (k : Int) := by omega
        go_wp2_with (go_at_call 45; refine (pick_any 23 (Read.refl H.out.1) (by omega) (by decide) (by decide)).mono ?_; rintro e w3 ⟨⟨q, rfl, hq⟩, hd⟩; have H3 := Lib.hid (H.out.trans hd); clear hd)
        go_roundw
        case rel => exact ⟨_, k - 1, rfl, by go_num, by omega, H3.out.mono (show B + 4 + 2 * (4 - k) + 2 ≤ B + 4 + 2 * (4 - (k - 1)) by omega)⟩
        case measure => simp [intOf]; omega
      · have hk1 : ¬ (0 : Int) < (k : Int) := by omega
        go_wp2
        go_ret
        exact ⟨⟨_, rfl, trivial⟩, HH.out.trans (H.out.mono (show B + 4 + 2 * (4 - k) ≤ B + 20 by omega))⟩

theorem ints_put (l : List Int) (x : Int) : ints (l ++ [x]) = ints l ++ [Value.int .i64 x] := by simp [ints]
/-- a row that has grown by one number, and the cursor -/
theorem out_grown {v : Value} {m g B0 B : Nat} {w w1 w2 : World} {lv lv2 : Value} {l : List Int} {x : Int} {E : TypeId} (HN : Cur v m g B0 w) (H1 : Read v m g B w w1) (O1 : w1.ownsRow w.heap.size 3 1 lv l.length (ints l))
    (h2 : w2.ownsRow w.heap.size 3 1 lv2 (l.length + 1) (ints l ++ [Value.int .i64 x])) (hg : (w1.alloc (.cells #[.int .i64 x] E)).grownBy w2 lv.ownBlock) :
    Read v m g B w w2 ∧ w2.ownsRow w.heap.size 3 1 lv2 (l ++ [x]).length (ints (l ++ [x])) :=
  ⟨(H1.alloc (.cells #[.int .i64 x] E)).grownNew HN hg (fun j hj => (O1.lt j hj).1), by rw [List.length_append, ints_put]; exact h2⟩

set_option maxHeartbeats 1600000 in
theorem outline_any {v : Value} {m g B : Nat} {w0 w : World} (h : Read v m g B w0 w) (hB : B ≤ 800000000) :
    Calls Tryz.prog 138 #[.pointer (some ⟨g, 0, none⟩)] w (DrawnO v m g (B + 100) w w0 1 3) := by
  have h1 := h.1
  have hg := h1.lt
  have HO := Lib.hid (World.ownsRow_made (base := w.heap.size) (e := 3) (size := 1) w #[] 0 (Nat.le_refl _) (by unfold maxLen; omega) rfl)
  have HA := Lib.hid ((Read.refl h1).alloc (.cells #[] 3))
  have HH := Lib.hid h; have HN := Lib.hid h1; clear h h1
  go_enter Tryz.func138, Tryz.ntmps138
  go_wp2_with (go_at_call 45; refine (pick_any 3 (Read.refl HA.out.1) (by omega) (by omega) (by omega)).mono ?_; rintro e w1 ⟨⟨ra, rfl, hra⟩, hd⟩; have H1 := Lib.hid (HA.out.trans hd); have O1 := Lib.hid (own_read HO.out hd hg); clear hd HA HO)
  go_loopw [3, 4] (fun lv n wr => ∃ (l : List Int) (k : Nat), n = .int .i64 k ∧ l.length + k ≤ 3 ∧ 1 ≤ l.length + k ∧ wr.ownsRow w.heap.size 3 1 lv l.length (ints l) ∧ Read v m g (B + 2 + 30 * l.length) w wr) (fun _ n _ => (intOf n).toNat)
  case atStart => exact ⟨[], 1 + ra, by go_num, by simp; omega, by show 1 ≤ 0 + (1 + ra); omega, O1.out, H1.out⟩
  clear O1 H1
  case round =>
    obtain ⟨l, k, rfl, hk, hk2, hown, hd⟩ := hrel
    have O := Lib.hid hown; have H := Lib.hid hd
    clear hown hd
    by_cases h0 : 0 < k
    · have hk1 : (0 : Int) < (k : Int) := by omega
      go_wp2_with (first
        | (at_builtin; have HO2 := O2; refine app_out rfl _ _ rfl w.heap.size _ l.length (ints l) rfl (O2.out.alloc _) ⟨_, 0, none⟩ 1 x rfl (out_news _ x _ _ rfl) (by omega) (by have := H2.out.2.size; rw [World.size_alloc]; omega) ?_; intro v2 w3 hown3 hg3)
        | (go_at_call 168; have hx := H1; refine (stroke_any (Read.refl H1.out.1) (by omega)).mono ?_; rintro e w2 ⟨⟨x, rfl, _⟩, hd⟩; have O2 := Lib.hid (own_read O1.out hd hg); have H2 := Lib.hid ((H1.out.trans hd).mono (show _ ≤ B + 2 + 30 * (l.length + 1) by omega)); clear hd)
        | (go_at_call 139; have hx := H1; refine (few_any (Read.refl H1.out.1) (by omega)).mono ?_; rintro e w2 ⟨⟨x, rfl, _⟩, hd⟩; have O2 := Lib.hid (own_read O1.out hd hg); have H2 := Lib.hid ((H1.out.trans hd).mono (show _ ≤ B + 2 + 30 * (l.length + 1) by omega)); clear hd)
        | (go_at_call 44; refine (one_any 5 (Read.refl H.out.1) (by omega) (by decide) (by decide)).mono ?_; rintro e w1 ⟨⟨ba, rfl⟩, hd⟩; have O1 := Lib.hid (own_read O.out hd hg); have H1 := Lib.hid (H.out.trans hd); clear hd))
      all_goals
        have HG := Lib.hid (out_grown HN.out H2.out O2.out hown3 hg3)
        clear O H O1 H1 O2 H2 hown3 hg3
        go_roundw
        case rel => exact ⟨l ++ [x], k - 1, by go_num, by simp; omega, by rw [List.length_append]; show 1 ≤ l.length + 1 + _; omega, HG.out.2, by rw [List.length_append]; exact HG.out.1⟩
        case measure => simp [intOf]; omega
    · have hk1 : ¬ (0 : Int) < (k : Int) := by omega
      obtain ⟨la, lc, rfl⟩ := Joins.ownsRow_form O.out (by omega)
      go_wp2
      go_ret
      exact ⟨⟨la, lc, l, rfl, O.out, by omega, by omega⟩, HH.out.trans (H.out.mono (show B + 2 + 30 * l.length ≤ B + 100 by omega))⟩

set_option maxHeartbeats 800000 in
theorem anyStroke_any {v : Value} {m g B : Nat} {w0 w : World} (h : Read v m g B w0 w) (hB : B ≤ 800000000) :
    Calls Tryz.prog 140 #[.pointer (some ⟨g, 0, none⟩)] w (DrawnI v m g (B + 30) w0 (fun _ => True)) := by
  have HD := Lib.hid (Read.refl h.1)
  have HH := Lib.hid h
  clear h
  go_enter Tryz.func140, Tryz.ntmps140
  go_wp2_with (first
    | (go_at_call 168; have hx := H1; refine (stroke_any (Read.refl H1.out.1) (by omega)).mono ?_; rintro e w2 ⟨⟨x, rfl, _⟩, hd⟩; have H2 := Lib.hid ((H1.out.trans hd).mono (show _ ≤ B + 30 by omega)); clear hd hx)
    | (go_at_call 111; have hx := H1; refine (among_lit [0, -1, 8388608, 8388607, 1, 1099511627776] (fun _ => True) (Read.refl H1.out.1) (by omega) (by decide) (by decide) (by simp) _).mono ?_; rintro e w2 ⟨⟨x, rfl, _⟩, hd⟩; have H2 := Lib.hid ((H1.out.trans hd).mono (show _ ≤ B + 30 by omega)); clear hd hx)
    | (go_at_call 44; refine (one_any 12 HD.out (by omega) (by decide) (by decide)).mono ?_; rintro e w1 ⟨⟨ba, rfl⟩, hd⟩; have H1 := Lib.hid hd; clear hd))
  all_goals go_ret
  all_goals exact ⟨⟨_, rfl, trivial⟩, HH.out.trans H2.out⟩

theorem own_lower2 {w : World} {b b' : Nat} {E : TypeId} {s n : Nat} {v : Value} {xs : List Value} (h : w.ownsRow b E s v n xs) (hb : b' ≤ b) : w.ownsRow b' E s v n xs := by
  refine ⟨h.1, ?_⟩
  rcases h.2 with h1 | ⟨g, c, u, h1, h2, h3⟩
  · exact .inl h1
  · exact .inr ⟨g, c, u, h1, Nat.le_trans hb h2, h3⟩

set_option maxHeartbeats 1600000 in
theorem anyOutline_any {v : Value} {m g B : Nat} {w0 w : World} (h : Read v m g B w0 w) (hB : B ≤ 700000000) :
    Calls Tryz.prog 91 #[.pointer (some ⟨g, 0, none⟩)] w (DrawnO v m g (B + 200) w w0 0 7) := by
  have h1 := h.1
  have hg := h1.lt
  have HD := Lib.hid (Read.refl h1)
  have HH := Lib.hid h; have HN := Lib.hid h1; clear h h1
  go_enter Tryz.func91, Tryz.ntmps91
  go_upto_region 2 with (go_at_call 45; refine (pick_any 16 HD.out (by omega) (by omega) (by omega)).mono ?_; rintro e w1 ⟨⟨ra, rfl, hra⟩, hd⟩; have H1 := Lib.hid hd; clear hd)
  have hz := H1.out.2.size
  by_cases c0 : ra = 0
  · subst c0
    have HO := Lib.hid (World.ownsRow_made (base := w.heap.size) (e := 3) (size := 1) w1 #[] 0 hz (by unfold maxLen; omega) rfl)
    go_wp2
    go_ret
    exact ⟨⟨_, _, [], rfl, HO.out, by simp, by simp⟩, HH.out.trans ((H1.out.alloc _).mono (show B + 2 ≤ B + 200 by omega))⟩
  by_cases c1 : ra = 1
  · subst c1
    have HO := Lib.hid (World.ownsRow_made (base := w.heap.size) (e := 3) (size := 1) w1 #[] 0 hz (by unfold maxLen; omega) rfl)
    have HA := Lib.hid (H1.out.alloc (.cells #[] 3))
    go_wp2_with (go_at_call 45; refine (pick_any 2 (Read.refl HA.out.1) (by omega) (by omega) (by omega)).mono ?_; rintro e w2 ⟨⟨r, rfl, hr⟩, hd⟩; have H2 := Lib.hid (HA.out.trans hd); have O2 := Lib.hid (own_read HO.out hd hg); clear hd HA HO)
    go_loopw [3, 4] (fun lv n wr => ∃ (l : List Int) (k : Nat), n = .int .i64 k ∧ l.length + k ≤ 7 ∧ 1 ≤ l.length + k ∧ wr.ownsRow w.heap.size 3 1 lv l.length (ints l) ∧ Read v m g (B + 4 + 2 * l.length) w wr) (fun _ n _ => (intOf n).toNat)
    case atStart => exact ⟨[], 6 + r, by go_num, by simp; omega, by show 1 ≤ 0 + (6 + r); omega, O2.out, H2.out⟩
    clear O2 H2
    case round =>
      obtain ⟨l, k, rfl, hk, hk2, hown, hd⟩ := hrel
      have O := Lib.hid hown; have H := Lib.hid hd
      clear hown hd
      by_cases h0 : 0 < k
      · have hk1 : (0 : Int) < (k : Int) := by omega
        go_wp2_with (first
          | (at_builtin; have HO2 := O2; refine app_out rfl _ _ rfl w.heap.size _ l.length (ints l) rfl (O2.out.alloc _) ⟨_, 0, none⟩ 1 x rfl (out_news _ x _ _ rfl) (by omega) (by have := H2.out.2.size; rw [World.size_alloc]; omega) ?_; intro v2 w3 hown3 hg3)
          | (go_at_call 139; refine (few_any (Read.refl H.out.1) (by omega)).mono ?_; rintro e w2 ⟨⟨x, rfl, _⟩, hd⟩; have O2 := Lib.hid (own_read O.out hd hg); have H2 := Lib.hid ((H.out.trans hd).mono (show _ ≤ B + 4 + 2 * (l.length + 1) by omega)); clear hd))
        have HG := Lib.hid (out_grown HN.out H2.out O2.out hown3 hg3)
        clear O H O2 H2 hown3 hg3
        go_roundw
        case rel => exact ⟨l ++ [x], k - 1, by go_num, by simp; omega, by rw [List.length_append]; show 1 ≤ l.length + 1 + _; omega, HG.out.2, by rw [List.length_append]; exact HG.out.1⟩
        case measure => simp [intOf]; omega
      · have hk1 : ¬ (0 : Int) < (k : Int) := by omega
        obtain ⟨la, lc, rfl⟩ := Joins.ownsRow_form O.out (by omega)
        go_wp2
        go_ret
        exact ⟨⟨la, lc, l, rfl, O.out, by omega, by omega⟩, HH.out.trans (H.out.mono (show B + 4 + 2 * l.length ≤ B + 200 by omega))⟩
  by_cases c2 : ra = 2
  · subst c2
    go_wp2_with (first
      | (at_builtin; have HO2 := O3; refine app_out rfl _ _ rfl w.heap.size _ l.length (ints l) rfl (O3.out.alloc _) ⟨_, 0, none⟩ 1 x rfl (out_news _ x _ _ rfl) (by omega) (by have := H3.out.2.size; rw [World.size_alloc]; omega) ?_; intro v2 w4 hown4 hg4)
      | (go_at_call 140; have hx := H2; refine (anyStroke_any (Read.refl H2.out.1) (by omega)).mono ?_; rintro e w3 ⟨⟨x, rfl, _⟩, hd⟩; have O3 := Lib.hid (own_read O2.out hd hg); have H3 := Lib.hid (H2.out.trans hd); clear hd)
      | (go_at_call 138; refine (outline_any (Read.refl H1.out.1) (by omega)).mono ?_; rintro e w2 ⟨⟨lg, lc, l, rfl, hown, hl1, hl⟩, hd⟩; have O2 := Lib.hid (own_lower2 hown hz); have H2 := Lib.hid (H1.out.trans hd); clear hd hown))
    have HG := Lib.hid (out_grown HN.out H3.out O3.out hown4 hg4)
    obtain ⟨la, lc2, rfl⟩ := Joins.ownsRow_form hown4 (by omega)
    go_ret
    exact ⟨⟨la, lc2, l ++ [x], by rw [List.length_append]; rfl, by have h9 := HG.out.2; rw [List.length_append] at h9 ⊢; exact h9, by simp, by rw [List.length_append]; show _ + 1 ≤ 7; omega⟩, HH.out.trans (HG.out.1.mono (show B + 2 + 100 + 30 ≤ B + 200 by omega))⟩
  have d0 : ¬ (ra : Int) = 0 := by omega
  have d1 : ¬ (ra : Int) = 1 := by omega
  have d2 : ¬ (ra : Int) = 2 := by omega
  go_wp2_with (go_at_call 138; refine (outline_any (Read.refl H1.out.1) (by omega)).mono ?_; rintro e w2 ⟨⟨lg, lc, l, rfl, hown, hl1, hl⟩, hd⟩; have O2 := Lib.hid (own_lower2 hown hz); have H2 := Lib.hid (H1.out.trans hd); clear hd hown)
  go_ret
  exact ⟨⟨_, _, l, rfl, O2.out, by omega, by omega⟩, HH.out.trans (H2.out.mono (show B + 2 + 100 ≤ B + 200 by omega))⟩

end Go.Proofs.YtdidgaibgkdjoaaGreatDoor
