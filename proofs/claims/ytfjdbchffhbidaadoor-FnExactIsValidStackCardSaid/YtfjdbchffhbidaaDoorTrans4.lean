/-
  CONTRACTS: a text cut at a byte; a translation read, of the program and of the reference.
-/
import Derived.Test.YtfjdbchffhbidaaDoorTrans3
import Derived.Test.YtfjdbchffhbidaaDoorFoldS
import Derived.Laws.AppendOwn
import Derived.OwnWalk
import Derived.Lib.SmallJoins
namespace Go.Proofs.YtfjdbchffhbidaaDoor
open Go.RowKit

theorem Tryd.infoAtm : (Tryd.prog.info? 143).map (fun i => (i.zero, i.size, i.bytes)) = some (some (.agg #[.int .i64 0, .string ⟨#[]⟩]), 2, 24) := by kernel_rfl
theorem Tryd.infoStx : (Tryd.prog.info? 9).map (fun i => (i.zero, i.size, i.bytes)) = some (some (.string ⟨#[]⟩), 1, 16) := by kernel_rfl
theorem folds_snocA (l : List (Int × ByteArray)) (p : Int × ByteArray) : folds (l ++ [p]) = folds l ++ [.int .i64 p.1, .string p.2] := by
  induction l with
  | nil => rfl
  | cons q r ih => simp only [List.cons_append, folds, ih]
theorem strs_snocA (l : List ByteArray) (x : ByteArray) : strs (l ++ [x]) = strs l ++ [.string x] := by simp [strs]
theorem app_atm {ops : Array Oper} {rest : List Oper} {o : Oper} {a : Act} {w : World} {Q : Exit → Act → World → Prop} (hgd : o.guard = none) (s x : Operand)
    (ho : o.op = .call { callee := .builtin .append, args := #[s, x], argTypes := #[117, 117] })
    (base : Nat) (v : Value) (n : Nat) (xs : List Value) (hs : a.eval s = v) (hown : w.ownsRow base 143 2 v n xs)
    (ad : Addr) (c : Nat) (qa : Int) (qt : ByteArray) (hx : a.eval x = .slice (some ad) 1 c) (hnews : ∀ j u, [Value.int .i64 qa, .string qt][j]? = some u → w.cell? (ad.add j) = some u)
    (hnm : n + 1 ≤ 4194304) (hbase : base ≤ w.heap.size)
    (h : ∀ v' w', w'.ownsRow base 143 2 v' (n + 1) (xs ++ [Value.int .i64 qa, .string qt]) → w.grownBy w' v.ownBlock → wpList Tryd.prog ops Q rest (a.put o.dst v') w') : wpList Tryd.prog ops Q (o :: rest) a w := by
  obtain ⟨i0, hi, hz0, hz1, hz2⟩ := info_parts Tryd.infoAtm
  exact wpList_append_own w hgd s x 117 ho base 143 i0 (.agg #[.int .i64 0, .string ⟨#[]⟩]) 2 24 Tryd.underlying117 hi hz0 hz1 hz2 rfl (by decide) v n xs hs hown ad 1 c [Value.int .i64 qa, .string qt] hx rfl hnews
    (by intro u hu; simp only [List.mem_cons, List.not_mem_nil, or_false] at hu; rcases hu with rfl | rfl <;> rfl)
    (by unfold maxLen; omega) (by omega) hbase (fun v' w' h1 h2 _ => h v' w' h1 h2)
theorem app_stx {ops : Array Oper} {rest : List Oper} {o : Oper} {a : Act} {w : World} {Q : Exit → Act → World → Prop} (hgd : o.guard = none) (s x : Operand)
    (ho : o.op = .call { callee := .builtin .append, args := #[s, x], argTypes := #[81, 81] })
    (base : Nat) (v : Value) (n : Nat) (xs : List Value) (hs : a.eval s = v) (hown : w.ownsRow base 9 1 v n xs)
    (ad : Addr) (c : Nat) (q : ByteArray) (hx : a.eval x = .slice (some ad) 1 c) (hnews : ∀ j u, [Value.string q][j]? = some u → w.cell? (ad.add j) = some u)
    (hnm : n + 1 ≤ 4194304) (hbase : base ≤ w.heap.size)
    (h : ∀ v' w', w'.ownsRow base 9 1 v' (n + 1) (xs ++ [Value.string q]) → w.grownBy w' v.ownBlock → wpList Tryd.prog ops Q rest (a.put o.dst v') w') : wpList Tryd.prog ops Q (o :: rest) a w := by
  obtain ⟨i0, hi, hz0, hz1, hz2⟩ := info_parts Tryd.infoStx
  exact wpList_append_own w hgd s x 81 ho base 9 i0 (.string ⟨#[]⟩) 1 16 Tryd.underlying81 hi hz0 hz1 hz2 rfl (by decide) v n xs hs hown ad 1 c [Value.string q] hx rfl hnews
    (by intro u hu; simp only [List.mem_cons, List.not_mem_nil, or_false] at hu; rcases hu with rfl <;> rfl)
    (by unfold maxLen; omega) (by omega) hbase (fun v' w' h1 h2 _ => h v' w' h1 h2)
theorem atm_news (w : World) (qa : Int) (qt : ByteArray) (E : TypeId) (b : Nat) (hb : b = w.heap.size) : ∀ j u, [Value.int .i64 qa, .string qt][j]? = some u → (w.alloc (.cells #[.int .i64 qa, .string qt] E)).cell? ((⟨b, 0, none⟩ : Addr).add j) = some u := by
  subst hb
  intro j u hj
  rw [Addr.add_lit, Nat.zero_add, World.cell?_alloc_mark]
  simpa using hj
theorem stx_news (w : World) (q : ByteArray) (E : TypeId) (b : Nat) (hb : b = w.heap.size) : ∀ j u, [Value.string q][j]? = some u → (w.alloc (.cells #[.string q] E)).cell? ((⟨b, 0, none⟩ : Addr).add j) = some u := by
  subst hb
  intro j u hj
  rw [Addr.add_lit, Nat.zero_add, World.cell?_alloc_mark]
  simpa using hj

/-- a text cut at each instance of a byte -/
def Cut1 (B : Nat) (w : World) (b : UInt8) (s : ByteArray) (e : Ending) (w' : World) : Prop :=
  ∃ v, e = .returned v ∧ w'.ownsRow B 9 1 v (Pl.parts b s).length (strs (Pl.parts b s)) ∧ Below B w w'

set_option maxRecDepth 20000 in
set_option maxHeartbeats 1600000 in
theorem l1Split_any (s : ByteArray) (b : UInt8) (w : World) (hs : s.size ≤ 1048576) :
    Calls Tryd.prog 46 #[.string s, .int .u8 (b.toNat : Int)] w (Cut1 w.heap.size w b s) := by
  have HO0 := Lib.hid (World.ownsRow_made (base := w.heap.size) (e := 9) (size := 1) w #[] 0 (Nat.le_refl _) (by unfold maxLen; omega) rfl)
  have HB0 := Lib.hid (Joins.below_alloc1 w (.cells #[] 9))
  have hbb : (b.toNat : Int) < 256 := by have := b.toNat_lt; omega
  go_enter Tryd.func46, Tryd.ntmps46
  go_wp2
  go_loopw [5, 6, 7] (fun v f i wr => ∃ (k g : Nat) (l : List ByteArray), k ≤ s.size ∧ i = .int .i64 k ∧ f = .int .i64 g ∧ g ≤ k ∧ l.length ≤ k ∧ Hid (Pl.CutInv b s k g l) ∧ wr.ownsRow w.heap.size 9 1 v l.length (strs l) ∧ Below w.heap.size w wr) (fun _ _ i _ => s.size - (intOf i).toNat)
  case atStart => exact ⟨0, 0, [], Nat.zero_le _, rfl, rfl, Nat.le_refl _, Nat.le_refl _, Lib.hid (Pl.cut_start b s), HO0.out, HB0.out⟩
  clear HO0 HB0
  case round =>
    obtain ⟨k, g, l, hk, rfl, rfl, hg, hl, HC, hown, hb⟩ := hrel
    have HO := Lib.hid hown; have HB := Lib.hid hb; clear hown hb
    have hgi : (g : Int) ≤ (k : Int) := by omega
    have hg0 : (0 : Int) ≤ (g : Int) := by omega
    by_cases hlt : k < s.size
    · have hbd : (s[k].toNat : Int) < 256 := by have := s[k].toNat_lt; omega
      have hki : (k : Int) ≤ (s.size : Int) := by omega
      by_cases hq : s[k] = b
      · have HN := Lib.hid (Pl.cut_one HC.out hlt hq)
        have t1 : ((s[k].toNat : Int) == (b.toNat : Int)) = true := by rw [hq]; simp
        have t2 : (s[k].toNat : Int) = (b.toNat : Int) := by rw [hq]
        have T2 := Lib.hid t2
        clear t2 hq HC
        go_wp2_with (at_builtin; refine app_stx rfl _ _ rfl w.heap.size _ l.length (strs l) rfl (HO.out.alloc _) ⟨_, 0, none⟩ 1 (s.extract g k) rfl (stx_news _ _ _ _ rfl) (by omega) (by have := HB.out.size; rw [World.size_alloc]; omega) ?_; intro v2 w2 hown2 hg2)
        have HB2 := Lib.hid ((HB.out.alloc HB.out.size (.cells #[.string (s.extract g k)] 9)).grown hg2 (by have := HB.out.size; rw [World.size_alloc]; omega) (fun j hj => (HO.out.lt j hj).1))
        have HO2 := Lib.hid hown2
        clear HB HO hown2 hg2
        go_roundw
        case rel => exact ⟨k + 1, k + 1, l ++ [s.extract g k], by omega, by go_num, by go_num, by omega, by rw [List.length_append]; exact Nat.succ_le_succ hl, HN, by have h := HO2.out; rw [← strs_snocA] at h; rw [List.length_append]; exact h, HB2.out⟩
        case measure => simp [intOf]; omega
      · have HN := Lib.hid (Pl.cut_none HC.out hlt hq)
        have t0 : ¬ (s[k].toNat : Int) = (b.toNat : Int) := fun h => hq (UInt8.toNat_inj.1 (by omega))
        have t1 : ((s[k].toNat : Int) == (b.toNat : Int)) = false := beq_eq_false_iff_ne.2 t0
        clear hq HC
        go_wp2
        go_roundw
        case rel => exact ⟨k + 1, g, l, by omega, by go_num, rfl, by omega, by omega, HN, HO.out, HB.out⟩
        case measure => simp [intOf]; omega
    · obtain rfl : k = s.size := by omega
      have HE := Lib.hid (Pl.cut_end HC.out)
      go_wp2_with (at_builtin; refine app_stx rfl _ _ rfl w.heap.size _ l.length (strs l) rfl (HO.out.alloc _) ⟨_, 0, none⟩ 1 (s.extract g s.size) rfl (stx_news _ _ _ _ rfl) (by omega) (by have := HB.out.size; rw [World.size_alloc]; omega) ?_; intro v2 w2 hown2 hg2)
      have HB2 := Lib.hid ((HB.out.alloc HB.out.size (.cells #[.string (s.extract g s.size)] 9)).grown hg2 (by have := HB.out.size; rw [World.size_alloc]; omega) (fun j hj => (HO.out.lt j hj).1))
      have HO2 := Lib.hid hown2
      clear HB HO hown2 hg2
      go_ret
      refine ⟨_, rfl, ?_, HB2.out⟩
      have h := HO2.out
      rw [← strs_snocA, HE.out, show l.length + 1 = (l ++ [s.extract g s.size]).length by rw [List.length_append]; rfl, HE.out] at h
      exact h

/-- a whole block of texts -/
def Blk (w : World) (b : Nat) (l : List ByteArray) : Prop := w.heap[b]? = some (.cells (strs l).toArray 9)
theorem Blk.lt {w : World} {b : Nat} {l : List ByteArray} (h : Blk w b l) : b < w.heap.size := by
  rcases Nat.lt_or_ge b w.heap.size with h' | h'
  · exact h'
  · unfold Blk at h; rw [Array.getElem?_eq_none h'] at h; cases h
theorem Blk.keep {w w' : World} {b : Nat} {l : List ByteArray} (h : Blk w b l) (hb : Below w.heap.size w w') : Blk w' b l := by
  have hl := h.lt
  unfold Blk at h ⊢
  rw [hb.block b hl]; exact h
theorem Blk.grown {w w' : World} {b base : Nat} {v : Value} {n : Nat} {xs : List Value} {l : List ByteArray} (h : Blk w b l) (ho : w.ownsRow base 143 2 v n xs) (hg : w.grownBy w' v.ownBlock) : Blk w' b l := by
  have hl := h.lt
  unfold Blk at h ⊢
  have hne : v.ownBlock ≠ some b := by
    rcases ho.2 with ⟨rfl, _⟩ | ⟨g, cap, cur, rfl, h2, hg, _⟩
    · simp [Value.ownBlock]
    · intro e
      simp only [Value.ownBlock, Option.some.injEq] at e
      subst e
      rw [hg] at h
      simp at h
  rw [hg.block b hl (fun e => hne e.symm)]
  exact h
theorem Blk.cell {w : World} {b : Nat} {l : List ByteArray} (h : Blk w b l) (k : Nat) (hk : k < l.length) : w.cell? ⟨b, k, none⟩ = some (.string l[k]) := by
  unfold Blk at h
  rw [cell_of_row w b k _ _ (0, 0) h, List.getElem?_toArray]
  exact strs_at l k hk
theorem split_any (s : ByteArray) (b : UInt8) (w : World) (hs : s.size ≤ 1048576) (hm : ∃ m, w.cell? ⟨0, 0, none⟩ = some (.int .i64 m)) :
    Calls Tryd.prog 111 #[.string s, .string ⟨#[b]⟩] w fun e w' => e = .returned (.slice (some ⟨w.heap.size, 0, none⟩) (Pl.parts b s).length (Pl.parts b s).length) ∧ Blk w' w.heap.size (Pl.parts b s) ∧ Below w.heap.size w w' := by
  obtain ⟨m, hm⟩ := hm
  refine (Tryd.strings_Split s ⟨#[b]⟩ m w (by omega) hm (show 1 ≤ 1 from Nat.le_refl _)).mono ?_
  rintro e w' ⟨rfl, rfl⟩
  rw [Pl.lib_parts, ← Pl.parts_count]
  exact ⟨rfl, by unfold Blk World.alloc; simp [strs], Joins.below_alloc1 _ _⟩

/-- a translation read: whether, and its atoms -/
def Read1 (B : Nat) (w : World) (s : ByteArray) (e : Ending) (w' : World) : Prop :=
  ∃ v, e = .returned (.tuple #[v, .bool (Pl.transOk s)]) ∧ w'.ownsRow B 143 2 v (Pl.transOut s).length (folds (Pl.transOut s)) ∧ Below B w w'
theorem parts_sz (b : UInt8) (s : ByteArray) (k : Nat) (h : k < (Pl.parts b s).length) : ((Pl.parts b s)[k]).size ≤ s.size := by
  have h1 := Pl.sizes_parts b s
  have h2 := (Pl.parts_len b s).1
  have h3 : ∀ (l : List ByteArray) (k : Nat) (h : k < l.length), (l[k]).size + (l.length - 1) ≤ Pl.sizes l + (l.length - 1) := by
    intro l
    induction l with
    | nil => intro k h; simp at h
    | cons x l ih =>
      intro k h
      unfold Pl.sizes
      rw [List.map_cons, List.sum_cons]
      cases k with
      | zero => simp
      | succ k =>
        have := ih k (by simpa using h)
        unfold Pl.sizes at this
        simp only [List.getElem_cons_succ]
        omega
  have := h3 _ k h
  omega
theorem row_formA {w : World} {base size n : Nat} {e : TypeId} {v : Value} {xs : List Value} (h : w.ownsRow base e size v n xs) : ∃ ao co, v = .slice ao n co := by
  rcases Joins.ownsRow_forms h with ⟨h1, h2⟩ | ⟨g, c, h1⟩
  · exact ⟨none, 0, by rw [h1, h2]⟩
  · exact ⟨_, c, h1⟩
theorem all_no {l : List ByteArray} {k : Nat} (h : k < l.length) (hp : Pl.parseOk l[k] = false) : l.all Pl.parseOk = false := by
  rw [List.all_eq_false]
  exact ⟨l[k], List.getElem_mem h, by rw [hp]; decide⟩
theorem all_yes {l : List ByteArray} {k : Nat} (h : k < l.length) (ha : (l.take k).all Pl.parseOk = true) (hp : Pl.parseOk l[k] = true) : (l.take (k + 1)).all Pl.parseOk = true := by
  rw [List.take_add_one, List.getElem?_eq_getElem h, List.all_append, ha]
  simp [hp]
theorem map_next {l : List ByteArray} {k : Nat} (h : k < l.length) : (l.take (k + 1)).map Pl.parseA = (l.take k).map Pl.parseA ++ [Pl.parseA l[k]] := by
  rw [List.take_add_one, List.getElem?_eq_getElem h, List.map_append]
  simp

set_option maxRecDepth 20000 in
set_option maxHeartbeats 3200000 in
theorem ParseTranslation_any (s : ByteArray) (w : World) (hs : s.size ≤ 4194304) (hm : ∃ m, w.cell? ⟨0, 0, none⟩ = some (.int .i64 m)) :
    Calls Tryd.prog 82 #[.string s] w (Read1 w.heap.size w s) := by
  by_cases hz : 60 < s.size
  · have E := Lib.hid (Pl.trans_no1 hz)
    have E2 := Lib.hid (Pl.out_no E.out)
    go_enter Tryd.func82, Tryd.ntmps82
    go_wp2
    go_ret2
    exact ⟨.slice none 0 0, by rw [E.out]; rfl, by rw [E2.out]; exact World.ownsRow_nil _ _ _ _, Below.refl _ _⟩
  have HO0 := Lib.hid (World.ownsRow_made (base := w.heap.size) (e := 143) (size := 2) w #[] 0 (Nat.le_refl _) (by unfold maxLen; omega) rfl)
  have HB0 := Lib.hid (Joins.below_alloc1 w (.cells #[] 143))
  have HS := Lib.hid (fun W h => split_any s 32 W (by omega) h)
  have hm1 : ∃ m, (w.alloc (.cells #[] 143)).cell? ⟨0, 0, none⟩ = some (.int .i64 m) := by obtain ⟨m, hm⟩ := hm; exact ⟨m, keepcT (Joins.below_alloc1 w _) hm⟩
  have HM := Lib.hid hm1
  have hpl := Pl.parts_len 32 s
  have HPS := Lib.hid (parts_sz 32 s)
  clear hm hm1
  go_enter Tryd.func82, Tryd.ntmps82
  go_wp2_with (go_at_call 111; (with_reducible refine (HS.out _ HM.out).mono ?_); rintro e w2 ⟨rfl, hr2, hb2⟩; have HR2 := Lib.hid hr2; have HB2 := Lib.hid (below_on3 HB0.out hb2); have HO2 := Lib.hid (own_keep HO0.out hb2); clear hr2 hb2)
  go_loopw [4, 16] (fun v i wr => ∃ k : Nat, k ≤ (Pl.parts 32 s).length ∧ i = .int .i64 k ∧ Hid (((Pl.parts 32 s).take k).all Pl.parseOk = true) ∧ wr.ownsRow w.heap.size 143 2 v k (folds (((Pl.parts 32 s).take k).map Pl.parseA)) ∧ Below w.heap.size w wr ∧ Blk wr (w.heap.size + 1) (Pl.parts 32 s)) (fun _ i _ => (Pl.parts 32 s).length - (intOf i).toNat)
  case atStart => exact ⟨0, Nat.zero_le _, rfl, Lib.hid rfl, HO2.out, HB2.out, by have h := HR2.out; rw [World.size_alloc] at h; exact h⟩
  clear HO2 HB2 HR2
  case round =>
    obtain ⟨k, hk, rfl, HA, hown, hb, hblk⟩ := hrel
    have HO := Lib.hid hown; have HB := Lib.hid hb; have HK := Lib.hid hblk
    clear hown hb hblk
    by_cases hlt : k < (Pl.parts 32 s).length
    · have c1 := HK.out.cell k hlt
      have hx := HPS.out k hlt
      have hki : (k : Int) < ((Pl.parts 32 s).length : Int) := by omega
      cases hq : Pl.parseOk (Pl.parts 32 s)[k]
      · have E := Lib.hid (Pl.trans_no2 (all_no hlt hq))
        have E2 := Lib.hid (Pl.out_no E.out)
        generalize (Pl.parts 32 s)[k] = x at c1 hx hq
        have HP := Lib.hid (fun W => ParseAtom_any x W (by omega))
        rw [hq] at HP
        clear HA
        go_wp2_with (go_at_call 112; (with_reducible refine (HP.out _).mono ?_); rintro e w3 ⟨rfl, hb3⟩; have HB3 := Lib.hid (below_on3 HB.out hb3); clear hb3)
        go_ret2
        exact ⟨.slice none 0 0, by rw [E.out]; rfl, by rw [E2.out]; exact World.ownsRow_nil _ _ _ _, HB3.out.alloc HB3.out.size _⟩
      · have HN := Lib.hid (all_yes hlt HA.out hq)
        have HX := Lib.hid (map_next hlt)
        generalize (Pl.parts 32 s)[k] = x at c1 hx hq HX
        have HP := Lib.hid (fun W => ParseAtom_any x W (by omega))
        rw [hq] at HP
        obtain ⟨qa, qt, hpa⟩ : ∃ qa qt, Pl.parseA x = (qa, qt) := ⟨_, _, rfl⟩
        rw [hpa] at HP HX
        clear hpa HA
        generalize ((Pl.parts 32 s).take k).map Pl.parseA = l at HO HX
        go_wp2_with (first
          | (at_builtin; refine app_atm rfl _ _ rfl w.heap.size _ k (folds l) rfl ((HO3.out.alloc _).alloc _) ⟨_, 0, none⟩ 1 qa qt rfl (atm_news _ _ _ _ _ (by rw [World.size_alloc])) (by omega) (by have := HB3.out.size; rw [World.size_alloc, World.size_alloc]; omega) ?_; intro v4 w4 hown4 hg4)
          | (go_at_call 112; (with_reducible refine (HP.out _).mono ?_); rintro e w3 ⟨rfl, hb3⟩; have HB3 := Lib.hid (below_on3 HB.out hb3); have HO3 := Lib.hid (own_keep HO.out hb3); have HK3 := Lib.hid (HK.out.keep hb3); clear hb3))
        have hb4 : Below w3.heap.size w3 ((w3.alloc (.cells #[.int .i64 qa, .string qt] 143)).alloc (.cells #[.int .i64 qa, .string qt] 143)) := Joins.below_alloc2 _ _ _
        have ho4 := (HO3.out.alloc (.cells #[.int .i64 qa, .string qt] 143)).alloc (.cells #[.int .i64 qa, .string qt] 143)
        have HB4 := Lib.hid ((below_on3 HB3.out hb4).grown hg4 (Nat.le_trans HB3.out.size hb4.size) (fun j hj => (ho4.lt j hj).1))
        have HK4 := Lib.hid ((HK3.out.keep hb4).grown ho4 hg4)
        have HO4 := Lib.hid hown4
        clear HB HO HK HB3 HO3 HK3 hown4 hg4 hb4 ho4
        go_roundw
        case rel => exact ⟨k + 1, by omega, by go_num, HN, by rw [HX.out, folds_snocA]; exact HO4.out, HB4.out, HK4.out⟩
        case measure => simp [intOf]; omega
    · obtain rfl : k = (Pl.parts 32 s).length := by omega
      have ha := HA.out
      rw [List.take_length] at ha
      rw [List.take_length] at HO
      have E := Lib.hid (Pl.trans_is (by omega) ha)
      clear ha HA
      obtain ⟨ao, co, rfl⟩ := row_formA HO.out
      by_cases h10 : (Pl.parts 32 s).length ≤ 10
      · rw [decide_eq_true h10] at E
        have E2 := Lib.hid (Pl.out_yes E.out)
        go_wp2
        go_ret2
        exact ⟨_, by rw [E.out]; rfl, by rw [E2.out, List.length_map]; exact HO.out, HB.out⟩
      · rw [decide_eq_false h10] at E
        have E2 := Lib.hid (Pl.out_no E.out)
        go_wp2
        go_ret2
        exact ⟨.slice none 0 0, by rw [E.out]; rfl, by rw [E2.out]; exact World.ownsRow_nil _ _ _ _, HB.out⟩

end Go.Proofs.YtfjdbchffhbidaaDoor
