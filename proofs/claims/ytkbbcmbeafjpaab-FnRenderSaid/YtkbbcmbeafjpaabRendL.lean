/-
  CONTRACTS: what the law FnRender calls: DrawRender, DrawNewState, JoinStrings; two rows of the call's own that grow by turns.
-/
import Derived.Test.YtkbbcmbeafjpaabDrawSeq
import Derived.Test.YtkbbcmbeafjpaabDrawAt
import Derived.Test.YtkbbcmbeafjpaabStRender
import Derived.Test.YtkbbcmbeafjpaabPlainRend
import Derived.Test.YtkbbcmbeafjpaabShelf
namespace Go.Proofs.Ytkbbcmbeafjpaab
open Go.RowKit

theorem Try.infoRend : (Try.prog.info? 9).map (fun i => (i.zero, i.size, i.bytes)) = some (some (.string ⟨#[]⟩), 1, 16) := by kernel_rfl
theorem app_rend {ops : Array Oper} {rest : List Oper} {o : Oper} {a : Act} {w : World} {Q : Exit → Act → World → Prop} (hgd : o.guard = none) (s x : Operand)
    (ho : o.op = .call { callee := .builtin .append, args := #[s, x], argTypes := #[42, 42] })
    (base : Nat) (v : Value) (n : Nat) (xs : List Value) (hs : a.eval s = v) (hown : w.ownsRow base 9 1 v n xs)
    (ad : Addr) (c : Nat) (q : ByteArray) (hx : a.eval x = .slice (some ad) 1 c) (hnews : ∀ j u, [Value.string q][j]? = some u → w.cell? (ad.add j) = some u)
    (hnm : n + 1 ≤ 4194304) (hbase : base ≤ w.heap.size)
    (h : ∀ v' w', w'.ownsRow base 9 1 v' (n + 1) (xs ++ [Value.string q]) → w.grownBy w' v.ownBlock → wpList Try.prog ops Q rest (a.put o.dst v') w') : wpList Try.prog ops Q (o :: rest) a w := by
  obtain ⟨i0, hi, hz0, hz1, hz2⟩ := info_parts Try.infoRend
  exact wpList_append_own w hgd s x 42 ho base 9 i0 (.string ⟨#[]⟩) 1 16 Try.underlying42 hi hz0 hz1 hz2 rfl (by decide) v n xs hs hown ad 1 c [Value.string q] hx rfl hnews
    (by intro u hu; simp only [List.mem_cons, List.not_mem_nil, or_false] at hu; rcases hu with rfl <;> rfl)
    (by unfold maxLen; omega) (by omega) hbase (fun v' w' h1 h2 _ => h v' w' h1 h2)
theorem rend_news (w : World) (q : ByteArray) (E : TypeId) (b : Nat) (hb : b = w.heap.size) : ∀ j u, [Value.string q][j]? = some u → (w.alloc (.cells #[.string q] E)).cell? ((⟨b, 0, none⟩ : Addr).add j) = some u := by
  subst hb
  intro j u hj
  rw [Addr.add_lit, Nat.zero_add, World.cell?_alloc_mark]
  simpa using hj
theorem atom_newsB (w : World) (qa : Int) (qt : ByteArray) (E : TypeId) (b : Nat) (hb : b = w.heap.size) : ∀ j u, [Value.int .i64 qa, .string qt][j]? = some u → (w.alloc (.cells #[.int .i64 qa, .string qt] E)).cell? ((⟨b, 0, none⟩ : Addr).add j) = some u := by
  subst hb; exact atom_news w qa qt E
theorem apart_rend {w : World} {b b' : Nat} {E E' : TypeId} {s s' n n' : Nat} {v v' : Value} {xs xs' : List Value} (h : w.ownsRow b E s v n xs) (h' : w.ownsRow b' E' s' v' n' xs') (hne : E ≠ E') : v.ownBlock = none ∨ v.ownBlock ≠ v'.ownBlock := by
  rcases h.2 with ⟨rfl, _⟩ | ⟨g1, c1, u1, rfl, _, k1, _⟩
  · exact .inl rfl
  · right
    rcases h'.2 with ⟨rfl, _⟩ | ⟨g2, c2, u2, rfl, _, k2, _⟩
    · simp [Value.ownBlock]
    · simp only [Value.ownBlock, ne_eq, Option.some.injEq]
      intro e
      subst e
      rw [k1] at k2
      cases k2
      exact hne rfl
theorem own_lower {w : World} {b b' : Nat} {E : TypeId} {s n : Nat} {v : Value} {xs : List Value} (h : w.ownsRow b E s v n xs) (hb : b' ≤ b) : w.ownsRow b' E s v n xs := by
  refine ⟨h.1, ?_⟩
  rcases h.2 with h1 | ⟨g, c, u, h1, h2, h3⟩
  · exact .inl h1
  · exact .inr ⟨g, c, u, h1, Nat.le_trans hb h2, h3⟩

set_option maxHeartbeats 800000 in
theorem DrawRender_any (v : Value) (w : World) (h : Code8 w v) : Calls Try.prog 13 #[v] w fun e w' => ∃ (lv : Value) (l : List (Int × ByteArray)), e = .returned lv ∧ w'.ownsRow w.heap.size 44 2 lv l.length (folds l) ∧ l.length ≤ 8 ∧ (∀ p ∈ l, okAs p.1 p.2) ∧ Below w.heap.size w w' := by
  obtain ⟨l, h1, h2⟩ := h
  have h3 := h2
  obtain ⟨a, cap, rfl, _, _, _, _, _⟩ := h3
  have HD := Lib.hid (Read.refl (Cur.new rfl h1 h2 55))
  clear h1 h2
  go_enter Try.func13, Try.ntmps13
  go_wp2_with (go_at_call 29; refine (sequence_any 8 (by omega) HD.out (by omega)).mono ?_; rintro e w1 ⟨⟨lv, l2, rfl, hown, hl, hk⟩, hd⟩; have HO := Lib.hid hown; have HE := Lib.hid hd; clear hown hd)
  go_ret
  exact ⟨_, l2, rfl, own_lower HO.out (by rw [World.size_alloc]; omega), hl, hk, HE.out.made⟩

set_option maxRecDepth 20000 in
set_option maxHeartbeats 800000 in
theorem DrawNewState_any (v : Value) (w : World) (h : Code8 w v) : Calls Try.prog 18 #[v] w (MadeS w 30) := by
  obtain ⟨l, h1, h2⟩ := h
  have h3 := h2
  obtain ⟨a, cap, rfl, _, _, _, _, _⟩ := h3
  have HD := Lib.hid (Read.refl (Cur.new rfl h1 h2 55))
  clear h1 h2
  go_enter Try.func18, Try.ntmps18
  go_upto_region 2 with fail
  generalize hW : w.alloc (.cells #[.slice a l.length cap, .int .i64 0, .int .u64 0] 55) = W0 at HD ⊢
  go_wp2_with ((go_at_call 34; refine (of_lit [⟨#[]⟩, ⟨#[115, 111]⟩, ⟨#[84, 104, 101, 32, 101, 110, 100, 46]⟩, ⟨#[97, 10]⟩, ⟨#[0]⟩, ⟨#[126]⟩, ⟨#[32]⟩] 30 (by repeat (first | with_reducible exact HD.out | with_reducible apply Read.alloc | with_reducible apply Read.to)) (by omega) (by decide) (by decide) (by decide) _).mono ?_; rintro e w' ⟨⟨sa, rfl, hsa⟩, hd⟩; replace HD := Lib.hid hd; clear hd))
  subst hW
  go_ret
  exact ⟨_, rfl, hsa, HD.out.made⟩

set_option maxHeartbeats 1600000 in
theorem JoinStrings_words (v : Value) (ws : List ByteArray) (w : World) (hr : Rows w v ws.length 1 (strs ws)) (hw : ∀ x ∈ ws, Pl.wordT x = true) (h0 : 0 < ws.length) (hl : ws.length ≤ 8) :
    Calls Try.prog 20 #[v, .string ⟨#[32]⟩] w fun e w' => e = .returned (.tuple #[.string (Pl.joinS ws), .bool true]) ∧ Below w.heap.size w w' := by
  have HR := Lib.hid hr
  obtain ⟨a, cap, rfl, hcap, hmax, _, _, hcells⟩ := hr
  have HC := Lib.hid hcells
  obtain ⟨b, off, rfl, c0⟩ := hcells 0 _ (strs_at ws 0 h0)
  have hb := World.block_lt_of_cell? _ _ c0
  have HW := Lib.hid hw
  have HJ := Lib.hid (Pl.joinS_len (ws := ws) (fun x hx => (Pl.wordT_prt (hw x hx)).2.2))
  clear hw hcells c0
  have hn0 : ¬ ws.length = 0 := by omega
  go_enter Try.func20, Try.ntmps20
  go_upto_region 4 with fail
  go_wp2
  go_loopw [6, 22] (fun t i wr => ∃ (k : Nat) (z : Int), k ≤ ws.length ∧ i = .int .i64 k ∧ t = .int .i64 z ∧ 0 ≤ z ∧ z ≤ 8 + 20 * (k : Int) ∧ wr = w) (fun _ i _ => ws.length - (intOf i).toNat)
  case atStart => exact ⟨0, _, Nat.zero_le _, rfl, rfl, by omega, by omega, rfl⟩
  case round =>
    obtain ⟨k, z, hk, rfl, rfl, hz0, hz1, rfl⟩ := hrel
    by_cases hlt : k < ws.length
    · obtain ⟨b', off', e', c1⟩ := HC.out k _ (strs_at ws k hlt)
      cases e'
      have hki : (k : Int) < (ws.length : Int) := by omega
      have hx := HW.out _ (List.getElem_mem hlt)
      have hz := (Pl.wordT_prt hx).2.2
      have HN := Lib.hid (Pl.no_space hx)
      generalize ws[k] = x at c1 hx hz HN
      have hz3 : z + (x.size : Int) ≤ 4000 := by omega
      go_wp2_with (go_at_call 36; refine (Try.strings_Contains_one x 32 _).mono ?_; rintro e w1 ⟨he, rfl⟩; rw [HN.out] at he; subst he)
      go_roundw
      case rel => exact ⟨k + 1, _, by omega, by go_num, rfl, by omega, by omega, by first | rfl | trivial⟩
      case measure => simp [intOf]; omega
    · obtain rfl : k = ws.length := by omega
      have HX := Lib.hid (show Calls Try.prog 37 #[.slice (some ⟨b, off, none⟩) ws.length cap, .string ⟨#[32]⟩] wr fun e w' => e = .returned (.string (Pl.joinS ws)) ∧ Below wr.heap.size wr w' from
        Try.strings_Join b off cap ws ⟨#[32]⟩ wr (fun j x hj => by
          obtain ⟨hj1, hj2⟩ := List.getElem?_eq_some_iff.1 hj
          subst hj2
          obtain ⟨b', off', e', c1⟩ := HC.out j _ (strs_at ws j hj1)
          cases e'
          exact c1) hb (by omega) hcap (Nat.le_trans HJ.out (by omega)))
      obtain ⟨js, hjs⟩ : ∃ js, Pl.joinS ws = js := ⟨_, rfl⟩
      rw [hjs] at HX
      have HJS := Lib.hid hjs
      clear hjs
      go_wp2_with (go_at_call 37; (with_reducible refine HX.out.mono ?_); rintro e w1 ⟨rfl, hb1⟩; have HB1 := Lib.hid hb1; clear hb1)
      go_ret2
      exact ⟨ret_strb HJS.out.symm rfl, HB1.out⟩

end Go.Proofs.Ytkbbcmbeafjpaab
