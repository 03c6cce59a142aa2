/-
  CONTRACTS: the keys of a stroke: keysOf, l2Keys.
-/
import Derived.Test.YtdidgaibgkdjoaaGreatDoorBasB
import Derived.Laws.AppendOwn
import Derived.Test.YtdidgaibgkdjoaaGreatDoorPlainRaw
namespace Go.Proofs.YtdidgaibgkdjoaaGreatDoor
open Go.RowKit

theorem Tryz.infoNat : (Tryz.prog.info? 3).map (fun i => (i.zero, i.size, i.bytes)) = some (some (.int .i64 0), 1, 8) := by kernel_rfl
/-- an append of one number to a row of the call's own -/
theorem app_nat {ops : Array Oper} {rest : List Oper} {o : Oper} {a : Act} {w : World} {Q : Exit → Act → World → Prop} (hgd : o.guard = none) (s x : Operand)
    (ho : o.op = .call { callee := .builtin .append, args := #[s, x], argTypes := #[36, 36] })
    (base : Nat) (v : Value) (n : Nat) (xs : List Value) (hs : a.eval s = v) (hown : w.ownsRow base 3 1 v n xs)
    (ad : Addr) (c : Nat) (q : Int) (hx : a.eval x = .slice (some ad) 1 c) (hnews : ∀ j u, [Value.int .i64 q][j]? = some u → w.cell? (ad.add j) = some u)
    (hnm : n + 1 ≤ 4194304) (hbase : base ≤ w.heap.size)
    (h : ∀ v' w', w'.ownsRow base 3 1 v' (n + 1) (xs ++ [Value.int .i64 q]) → w.grownBy w' v.ownBlock → wpList Tryz.prog ops Q rest (a.put o.dst v') w') : wpList Tryz.prog ops Q (o :: rest) a w := by
  obtain ⟨i0, hi, hz0, hz1, hz2⟩ := info_parts Tryz.infoNat
  exact wpList_append_own w hgd s x 36 ho base 3 i0 (.int .i64 0) 1 8 Tryz.underlying36 hi hz0 hz1 hz2 rfl (by decide) v n xs hs hown ad 1 c [Value.int .i64 q] hx rfl hnews
    (by intro u hu; simp only [List.mem_cons, List.not_mem_nil, or_false] at hu; rcases hu with rfl <;> rfl)
    (by unfold maxLen; omega) (by omega) hbase (fun v' w' h1 h2 _ => h v' w' h1 h2)
theorem nat_news (w : World) (q : Int) (E : TypeId) (b : Nat) (hb : b = w.heap.size) : ∀ j u, [Value.int .i64 q][j]? = some u → (w.alloc (.cells #[.int .i64 q] E)).cell? ((⟨b, 0, none⟩ : Addr).add j) = some u := by
  subst hb
  intro j u hj
  rw [Addr.add_lit, Nat.zero_add, World.cell?_alloc_mark]
  simpa using hj
theorem row_formK {w : World} {base size n : Nat} {e : TypeId} {v : Value} {xs : List Value} (h : w.ownsRow base e size v n xs) : ∃ ao co, v = .slice ao n co := by
  rcases h.2 with ⟨rfl, rfl⟩ | ⟨g, c', u', rfl, _⟩
  · exact ⟨none, 0, rfl⟩
  · exact ⟨_, _, rfl⟩
theorem ints_putK (l : List Int) (x : Int) : ints (l ++ [x]) = ints l ++ [Value.int .i64 x] := by simp [ints]
theorem u64_natK {j : Nat} (h : j ≤ 22) : IntKind.u64.wrap (j : Int) = j := by
  have h9 : ∀ i : Fin 23, IntKind.u64.wrap (i.val : Int) = i.val := by decide
  exact h9 ⟨j, by omega⟩
/-- numbers as integers -/
def nats (l : List Nat) : List Int := List.map (fun (j : Nat) => (j : Int)) l
theorem nats_put (l : List Nat) (k : Nat) : nats (l ++ [k]) = nats l ++ [(k : Int)] := by simp [nats]

set_option maxRecDepth 20000 in
set_option maxHeartbeats 1600000 in
theorem keysOf_any (n : Nat) (w : World) (hn : n < 8388608) : Calls Tryz.prog 164 #[.int .i64 n] w (RetRow 3 1 w.heap.size w (Pl.keysTo' n 23).length (ints (nats (Pl.keysTo' n 23)))) := by
  have HR0 := Lib.hid (World.ownsRow_made (base := w.heap.size) (e := 3) (size := 1) w #[] 0 (Nat.le_refl _) (by unfold maxLen; omega) rfl)
  go_enter Tryz.func164, Tryz.ntmps164
  go_wp2
  go_loopw [3, 6] (fun out i wr => ∃ k : Nat, k ≤ 23 ∧ i = .int .i64 k ∧ Hid (wr.ownsRow w.heap.size 3 1 out (Pl.keysTo' n k).length (ints (nats (Pl.keysTo' n k)))) ∧ Below w.heap.size w wr) (fun _ i _ => 23 - (intOf i).toNat)
  case atStart => exact ⟨0, by omega, rfl, HR0, Joins.below_alloc1 _ _⟩
  clear HR0
  case round =>
    obtain ⟨k, hk, rfl, HO, hb⟩ := hrel
    have HB := Lib.hid hb; clear hb
    obtain ⟨ao, co, rfl⟩ := row_formK HO.out
    have hlen := Pl.keysTo_len n k
    by_cases hlt : k < 23
    · have hki : (k : Int) < 23 := by omega
      have hk0 : (0 : Int) ≤ (k : Int) := by omega
      have hu := u64_natK (show k ≤ 22 by omega)
      have hsh := Pl.shr_key n k hn
      have HN := Lib.hid (Pl.keysTo_next n k)
      cases hq : n.testBit k
      · have q1 : (bits .and .i64 ((n : Int) / 2 ^ k) 1 == 1) = false := by rw [hsh, hq]; rfl
        have q2 : bits .and .i64 ((n : Int) / 2 ^ k) 1 = 0 := by rw [hsh, hq]; rfl
        have E := Lib.hid (show Pl.keysTo' n (k + 1) = Pl.keysTo' n k by rw [HN.out, hq, if_neg (by decide), List.append_nil])
        clear hsh HN
        generalize Pl.keysTo' n k = L at HO hlen E
        go_wp2
        go_roundw
        case rel => exact ⟨k + 1, by omega, by go_num, by rw [E.out]; exact HO, HB.out⟩
        case measure => simp [intOf]; omega
      · have q1 : (bits .and .i64 ((n : Int) / 2 ^ k) 1 == 1) = true := by rw [hsh, hq]; rfl
        have q2 : bits .and .i64 ((n : Int) / 2 ^ k) 1 = 1 := by rw [hsh, hq]; rfl
        have E := Lib.hid (show Pl.keysTo' n (k + 1) = Pl.keysTo' n k ++ [k] by rw [HN.out, hq, if_pos rfl])
        clear hsh HN
        generalize Pl.keysTo' n k = L at HO hlen E
        have hLL : (nats L).length = L.length := by simp [nats]
        go_wp2_with (at_builtin; refine app_nat rfl _ _ rfl w.heap.size _ L.length (ints (nats L)) rfl (HO.out.alloc _) ⟨_, 0, none⟩ 1 (k : Int) rfl (nat_news _ _ _ _ rfl) (by omega) (by rw [World.size_alloc]; have := HB.out.size; omega) ?_; intro v4 w4 hown4 hg4)
        go_roundw
        case rel => exact ⟨k + 1, by omega, by go_num, Lib.hid (by rw [E.out, List.length_append, nats_put, ints_putK]; exact hown4), (HB.out.alloc HB.out.size _).grown hg4 (by rw [World.size_alloc]; exact Nat.le_succ_of_le HB.out.size) (fun j hj => (HO.out.lt j hj).1)⟩
        case measure => simp [intOf]; omega
    · obtain rfl : k = 23 := by omega
      go_wp2
      go_ret
      exact ⟨_, rfl, HO.out, HB.out⟩

set_option maxRecDepth 20000 in
set_option maxHeartbeats 1600000 in
theorem l2Keys_any (n : Nat) (w : World) (hn : n < 8388608) : Calls Tryz.prog 199 #[.int .i64 n] w (RetRow 3 1 w.heap.size w (Pl.keysTo' n 23).length (ints (nats (Pl.keysTo' n 23)))) := by
  have HR0 := Lib.hid (World.ownsRow_made (base := w.heap.size) (e := 3) (size := 1) w #[] 0 (Nat.le_refl _) (by unfold maxLen; omega) rfl)
  go_enter Tryz.func199, Tryz.ntmps199
  go_wp2
  go_loopw [3, 4] (fun out i wr => ∃ k : Nat, k ≤ 23 ∧ i = .int .i64 k ∧ Hid (wr.ownsRow w.heap.size 3 1 out (Pl.keysTo' n k).length (ints (nats (Pl.keysTo' n k)))) ∧ Below w.heap.size w wr) (fun _ i _ => 23 - (intOf i).toNat)
  case atStart => exact ⟨0, by omega, rfl, HR0, Joins.below_alloc1 _ _⟩
  clear HR0
  case round =>
    obtain ⟨k, hk, rfl, HO, hb⟩ := hrel
    have HB := Lib.hid hb; clear hb
    obtain ⟨ao, co, rfl⟩ := row_formK HO.out
    have hlen := Pl.keysTo_len n k
    by_cases hlt : k < 23
    · have hki : (k : Int) < 23 := by omega
      have hk0 : (0 : Int) ≤ (k : Int) := by omega
      have hu := u64_natK (show k ≤ 22 by omega)
      have hsh := Pl.shr_key n k hn
      have HN := Lib.hid (Pl.keysTo_next n k)
      cases hq : n.testBit k
      · have q1 : (bits .and .i64 ((n : Int) / 2 ^ k) 1 == 1) = false := by rw [hsh, hq]; rfl
        have q2 : bits .and .i64 ((n : Int) / 2 ^ k) 1 = 0 := by rw [hsh, hq]; rfl
        have E := Lib.hid (show Pl.keysTo' n (k + 1) = Pl.keysTo' n k by rw [HN.out, hq, if_neg (by decide), List.append_nil])
        clear hsh HN
        generalize Pl.keysTo' n k = L at HO hlen E
        go_wp2
        go_roundw
        case rel => exact ⟨k + 1, by omega, by go_num, by rw [E.out]; exact HO, HB.out⟩
        case measure => simp [intOf]; omega
      · have q1 : (bits .and .i64 ((n : Int) / 2 ^ k) 1 == 1) = true := by rw [hsh, hq]; rfl
        have q2 : bits .and .i64 ((n : Int) / 2 ^ k) 1 = 1 := by rw [hsh, hq]; rfl
        have E := Lib.hid (show Pl.keysTo' n (k + 1) = Pl.keysTo' n k ++ [k] by rw [HN.out, hq, if_pos rfl])
        clear hsh HN
        generalize Pl.keysTo' n k = L at HO hlen E
        have hLL : (nats L).length = L.length := by simp [nats]
        go_wp2_with (at_builtin; refine app_nat rfl _ _ rfl w.heap.size _ L.length (ints (nats L)) rfl (HO.out.alloc _) ⟨_, 0, none⟩ 1 (k : Int) rfl (nat_news _ _ _ _ rfl) (by omega) (by rw [World.size_alloc]; have := HB.out.size; omega) ?_; intro v4 w4 hown4 hg4)
        go_roundw
        case rel => exact ⟨k + 1, by omega, by go_num, Lib.hid (by rw [E.out, List.length_append, nats_put, ints_putK]; exact hown4), (HB.out.alloc HB.out.size _).grown hg4 (by rw [World.size_alloc]; exact Nat.le_succ_of_le HB.out.size) (fun j hj => (HO.out.lt j hj).1)⟩
        case measure => simp [intOf]; omega
    · obtain rfl : k = 23 := by omega
      go_wp2
      go_ret
      exact ⟨_, rfl, HO.out, HB.out⟩

end Go.Proofs.YtdidgaibgkdjoaaGreatDoor
