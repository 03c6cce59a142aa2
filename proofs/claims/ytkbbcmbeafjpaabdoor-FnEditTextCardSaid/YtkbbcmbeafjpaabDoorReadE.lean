/-
  CONTRACTS: the reference's l1Split and l1Read.
-/
import Derived.Test.YtkbbcmbeafjpaabDoorPlainPed
import Derived.Test.YtkbbcmbeafjpaabDoorNumText
import Derived.Test.YtkbbcmbeafjpaabDoorEnds
import Derived.Laws.AppendOwn
import Derived.OwnWalk
import Derived.Lib.SmallJoins
namespace Go.Proofs.YtkbbcmbeafjpaabDoor
open Go.RowKit

theorem Tryd.infoSpl : (Tryd.prog.info? 9).map (fun i => (i.zero, i.size, i.bytes)) = some (some (.string ⟨#[]⟩), 1, 16) := by kernel_rfl
theorem strs_snocP (l : List ByteArray) (x : ByteArray) : strs (l ++ [x]) = strs l ++ [.string x] := by simp [strs]
theorem app_spl {ops : Array Oper} {rest : List Oper} {o : Oper} {a : Act} {w : World} {Q : Exit → Act → World → Prop} (hgd : o.guard = none) (s x : Operand)
    (ho : o.op = .call { callee := .builtin .append, args := #[s, x], argTypes := #[38, 38] })
    (base : Nat) (v : Value) (n : Nat) (xs : List Value) (hs : a.eval s = v) (hown : w.ownsRow base 9 1 v n xs)
    (ad : Addr) (c : Nat) (q : ByteArray) (hx : a.eval x = .slice (some ad) 1 c) (hnews : ∀ j u, [Value.string q][j]? = some u → w.cell? (ad.add j) = some u)
    (hnm : n + 1 ≤ 4194304) (hbase : base ≤ w.heap.size)
    (h : ∀ v' w', w'.ownsRow base 9 1 v' (n + 1) (xs ++ [Value.string q]) → w.grownBy w' v.ownBlock → wpList Tryd.prog ops Q rest (a.put o.dst v') w') : wpList Tryd.prog ops Q (o :: rest) a w := by
  obtain ⟨i0, hi, hz0, hz1, hz2⟩ := info_parts Tryd.infoSpl
  exact wpList_append_own w hgd s x 38 ho base 9 i0 (.string ⟨#[]⟩) 1 16 Tryd.underlying38 hi hz0 hz1 hz2 rfl (by decide) v n xs hs hown ad 1 c [Value.string q] hx rfl hnews
    (by intro u hu; simp only [List.mem_cons, List.not_mem_nil, or_false] at hu; rcases hu with rfl <;> rfl)
    (by unfold maxLen; omega) (by omega) hbase (fun v' w' h1 h2 _ => h v' w' h1 h2)
theorem spl_news (w : World) (q : ByteArray) (E : TypeId) (b : Nat) (hb : b = w.heap.size) : ∀ j u, [Value.string q][j]? = some u → (w.alloc (.cells #[.string q] E)).cell? ((⟨b, 0, none⟩ : Addr).add j) = some u := by
  subst hb
  intro j u hj
  rw [Addr.add_lit, Nat.zero_add, World.cell?_alloc_mark]
  simpa using hj

/-- a text cut at each instance of a byte -/
def Cut1 (B : Nat) (w : World) (b : UInt8) (s : ByteArray) (e : Ending) (w' : World) : Prop :=
  ∃ v, e = .returned v ∧ w'.ownsRow B 9 1 v (Pl.parts b s).length (strs (Pl.parts b s)) ∧ Below B w w'

set_option maxRecDepth 20000 in
set_option maxHeartbeats 1600000 in
theorem l1Split_any (s : ByteArray) (b : UInt8) (w : World) (hs : s.size ≤ 1048576) :
    Calls Tryd.prog 16 #[.string s, .int .u8 (b.toNat : Int)] w (Cut1 w.heap.size w b s) := by
  have HO0 := Lib.hid (World.ownsRow_made (base := w.heap.size) (e := 9) (size := 1) w #[] 0 (Nat.le_refl _) (by unfold maxLen; omega) rfl)
  have HB0 := Lib.hid (Joins.below_alloc1 w (.cells #[] 9))
  have hbb : (b.toNat : Int) < 256 := by have := b.toNat_lt; omega
  go_enter Tryd.func16, Tryd.ntmps16
  go_wp2
  go_loopw [5, 6, 7] (fun v f i wr => ∃ (k g : Nat) (l : List ByteArray), k ≤ s.size ∧ i = .int .i64 k ∧ f = .int .i64 g ∧ g ≤ k ∧ l.length ≤ k ∧ Hid (Pl.CutInv b s k g l) ∧ wr.ownsRow w.heap.size 9 1 v l.length (strs l) ∧ Below w.heap.size w wr) (fun _ _ i _ => s.size - (intOf i).toNat)
  case atStart => exact ⟨0, 0, [], Nat.zero_le _, rfl, rfl, Nat.le_refl _, Nat.le_refl _, Lib.hid (Pl.cut_start b s), HO0.out, HB0.out⟩
  clear HO0 HB0
  case round =>
    obtain ⟨k, g, l, hk, rfl, rfl, hg, hl, HC, hown, hb⟩ := hrel
    have HO := Lib.hid hown; have HB := Lib.hid hb; clear hown hb
    have hgi : (g : Int) ≤ (k : Int) := by omega
    have hg0 : (0 : Int) ≤ (g : Int) := by omega
    by_cases hlt : k < s.size
    · have hbd : (s[k].toNat : Int) < 256 := by have := s[k].toNat_lt; omega
      have hki : (k : Int) ≤ (s.size : Int) := by omega
      by_cases hq : s[k] = b
      · have HN := Lib.hid (Pl.cut_one HC.out hlt hq)
        have t1 : ((s[k].toNat : Int) == (b.toNat : Int)) = true := by rw [hq]; simp
        have t2 : (s[k].toNat : Int) = (b.toNat : Int) := by rw [hq]
        have T2 := Lib.hid t2
        clear t2 hq HC
        go_wp2_with (at_builtin; refine app_spl rfl _ _ rfl w.heap.size _ l.length (strs l) rfl (HO.out.alloc _) ⟨_, 0, none⟩ 1 (s.extract g k) rfl (spl_news _ _ _ _ rfl) (by omega) (by have := HB.out.size; rw [World.size_alloc]; omega) ?_; intro v2 w2 hown2 hg2)
        have HB2 := Lib.hid ((HB.out.alloc HB.out.size (.cells #[.string (s.extract g k)] 9)).grown hg2 (by have := HB.out.size; rw [World.size_alloc]; omega) (fun j hj => (HO.out.lt j hj).1))
        have HO2 := Lib.hid hown2
        clear HB HO hown2 hg2
        go_roundw
        case rel => exact ⟨k + 1, k + 1, l ++ [s.extract g k], by omega, by go_num, by go_num, by omega, by rw [List.length_append]; exact Nat.succ_le_succ hl, HN, by have h := HO2.out; rw [← strs_snocP] at h; rw [List.length_append]; exact h, HB2.out⟩
        case measure => simp [intOf]; omega
      · have HN := Lib.hid (Pl.cut_none HC.out hlt hq)
        have t0 : ¬ (s[k].toNat : Int) = (b.toNat : Int) := fun h => hq (UInt8.toNat_inj.1 (by omega))
        have t1 : ((s[k].toNat : Int) == (b.toNat : Int)) = false := beq_eq_false_iff_ne.2 t0
        clear hq HC
        go_wp2
        go_roundw
        case rel => exact ⟨k + 1, g, l, by omega, by go_num, rfl, by omega, by omega, HN, HO.out, HB.out⟩
        case measure => simp [intOf]; omega
    · obtain rfl : k = s.size := by omega
      have HE := Lib.hid (Pl.cut_end HC.out)
      go_wp2_with (at_builtin; refine app_spl rfl _ _ rfl w.heap.size _ l.length (strs l) rfl (HO.out.alloc _) ⟨_, 0, none⟩ 1 (s.extract g s.size) rfl (spl_news _ _ _ _ rfl) (by omega) (by have := HB.out.size; rw [World.size_alloc]; omega) ?_; intro v2 w2 hown2 hg2)
      have HB2 := Lib.hid ((HB.out.alloc HB.out.size (.cells #[.string (s.extract g s.size)] 9)).grown hg2 (by have := HB.out.size; rw [World.size_alloc]; omega) (fun j hj => (HO.out.lt j hj).1))
      have HO2 := Lib.hid hown2
      clear HB HO hown2 hg2
      go_ret
      refine ⟨_, rfl, ?_, HB2.out⟩
      have h := HO2.out
      rw [← strs_snocP, HE.out, show l.length + 1 = (l ++ [s.extract g s.size]).length by rw [List.length_append]; rfl, HE.out] at h
      exact h


end Go.Proofs.YtkbbcmbeafjpaabDoor
