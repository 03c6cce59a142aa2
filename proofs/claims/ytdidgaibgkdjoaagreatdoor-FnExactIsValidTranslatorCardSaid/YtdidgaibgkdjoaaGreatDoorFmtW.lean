/-
  CONTRACTS: the notation of a stroke: FormatStroke, l2Format, l14Raw.
-/
import Derived.Test.YtdidgaibgkdjoaaGreatDoorKeysW
import Derived.Test.YtdidgaibgkdjoaaGreatDoorBasB
namespace Go.Proofs.YtdidgaibgkdjoaaGreatDoor
open Go.RowKit

def labT : ByteArray := ⟨#[35, 83, 84, 75, 80, 87, 72, 82, 65, 79, 42, 69, 85, 70, 82, 80, 66, 76, 71, 84, 83, 68, 90]⟩
theorem lab_at {k : Nat} (h : k < 23) : labT.extract k (k + 1) = ⟨⟨[Pl.lab k]⟩⟩ := by
  have h9 : ∀ i : Fin 23, labT.extract i.val (i.val + 1) = ⟨⟨[Pl.lab i.val]⟩⟩ := by decide
  exact h9 ⟨k, h⟩
theorem nats_at (L : List Nat) (i : Nat) (h : i < L.length) : (ints (nats L))[i]? = some (.int .i64 (L[i] : Nat)) := by
  simp [ints, nats, List.getElem?_eq_getElem h]
theorem cat_list (a b : ByteArray) : (a ++ b).data.toList = a.data.toList ++ b.data.toList := Pl.ba_append a b
/-- the notation so far: what is written, and what is yet to come -/
def FmtAt (n i : Nat) (T : ByteArray) (m : Bool) : Prop := T.size ≤ 2 * i ∧ (Pl.fmtB n).data.toList = T.data.toList ++ Pl.fmtK m ((Pl.keysTo' n 23).drop i)

theorem fmtK_hy {k : Nat} {r : List Nat} (h : 13 ≤ k) : Pl.fmtK false (k :: r) = 45 :: Pl.lab k :: Pl.fmtK true r := by
  conv => lhs; unfold Pl.fmtK
  rw [if_pos ⟨h, rfl⟩]
theorem fmtK_no {k : Nat} {r : List Nat} {m : Bool} (h : ¬ (13 ≤ k ∧ m = false)) : Pl.fmtK m (k :: r) = Pl.lab k :: Pl.fmtK m r := by
  conv => lhs; unfold Pl.fmtK
  rw [if_neg h]
theorem FmtAt.hy {n j k : Nat} {T : ByteArray} (hs : T.size ≤ 2 * j) (h : (Pl.fmtB n).data.toList = T.data.toList ++ Pl.fmtK false ((Pl.keysTo' n 23).drop j)) (hd : (Pl.keysTo' n 23).drop j = k :: (Pl.keysTo' n 23).drop (j + 1)) (h13 : 13 ≤ k) (hk : k < 23) :
    FmtAt n (j + 1) (T ++ ⟨#[45]⟩ ++ labT.extract k (k + 1)) true := by
  rw [lab_at hk]
  refine ⟨?_, ?_⟩
  · rw [ByteArray.size_append, ByteArray.size_append]
    show T.size + 1 + 1 ≤ _
    omega
  · rw [h, hd, fmtK_hy h13, cat_list, cat_list, List.append_assoc, List.append_assoc]
    rfl
theorem FmtAt.no {n j k : Nat} {T : ByteArray} {m : Bool} (hs : T.size ≤ 2 * j) (h : (Pl.fmtB n).data.toList = T.data.toList ++ Pl.fmtK m ((Pl.keysTo' n 23).drop j)) (hd : (Pl.keysTo' n 23).drop j = k :: (Pl.keysTo' n 23).drop (j + 1)) (hn : ¬ (13 ≤ k ∧ m = false)) (hk : k < 23) :
    FmtAt n (j + 1) (T ++ labT.extract k (k + 1)) m := by
  rw [lab_at hk]
  refine ⟨?_, ?_⟩
  · rw [ByteArray.size_append]
    show T.size + 1 ≤ _
    omega
  · rw [h, hd, fmtK_no hn, cat_list, List.append_assoc]
    rfl
theorem FmtAt.done {n : Nat} {T : ByteArray} {m : Bool} (h : FmtAt n (Pl.keysTo' n 23).length T m) : T = Pl.fmtB n := by
  have h2 := h.2
  rw [List.drop_length] at h2
  rw [show Pl.fmtK m [] = [] from rfl, List.append_nil] at h2
  exact Pl.ba_ext h2.symm

set_option maxRecDepth 20000 in
set_option maxHeartbeats 1600000 in
theorem FormatStroke_any (n : Nat) (w : World) (h1 : 1 ≤ n) (hn : n < 8388608) : Calls Tryz.prog 131 #[.int .i64 n] w fun e w' => e = .returned (.tuple #[.string (Pl.fmtB n), .bool true]) ∧ Below w.heap.size w w' := by
  have hv : Pl.strokeB (n : Int) = true := by simp only [Pl.strokeB, Pl.inB, Bool.and_eq_true, decide_eq_true_iff]; omega
  have hmid := Pl.mid_bits n
  have HK := Lib.hid (fun W => keysOf_any n W hn)
  have HV := Lib.hid (fun W => IsValidStroke_any (n : Int) W)
  rw [hv] at HV
  have HLT := Lib.hid (fun (i : Nat) (h : i < (Pl.keysTo' n 23).length) => (Pl.keysTo_lt (List.getElem_mem h)).1)
  have hkl := Pl.keysTo_len n 23
  have q0 : bits .and .i64 ((n : Int) / 2 ^ 8) 31 = ((n / 256 &&& 31 : Nat) : Int) := by
    rw [show ((n : Int) / 2 ^ 8) = ((n / 256 : Nat) : Int) by rw [show ((2 : Int) ^ 8) = 256 by decide]; omega, show (31 : Int) = ((31 : Nat) : Int) from rfl, Pl.bits_and _ _ (by omega) (by omega)]
  go_enter Tryz.func131, Tryz.ntmps131
  go_upto_region 3 with (go_at_call 115; (with_reducible refine (HV.out _).mono ?_); rintro e w1 ⟨rfl, rfl⟩)
  go_upto_region 4 with fail
  have hm5 : (bits .and .i64 ((n : Int) / 256) 31 != 0) = (Pl.keysTo' n 23).any Pl.isMid := by
    rw [show ((n : Int) / 256) = ((n : Int) / 2 ^ 8) from rfl, q0, ← hmid, Bool.eq_iff_iff, bne_iff_ne, bne_iff_ne]
    omega
  rw [hm5]
  have HS := Lib.hid (show FmtAt n 0 ⟨#[]⟩ ((Pl.keysTo' n 23).any Pl.isMid) from ⟨Nat.zero_le _, rfl⟩)
  clear hm5 hmid q0 HV hv
  generalize (Pl.keysTo' n 23).any Pl.isMid = m0 at HS ⊢
  go_upto_region 5 with (go_at_call 164; (with_reducible refine (HK.out _).mono ?_); rintro e w1 ⟨kv, rfl, hown, hb⟩; obtain ⟨ka, kc, rfl⟩ := row_formK hown; have HB1 := Lib.hid hb; have HR1 := Lib.hid (Rows.of_own hown); clear hb hown)
  clear HK
  go_loopw [4, 5, 18] (fun o md i wr => ∃ (j : Nat) (T : ByteArray) (m : Bool), j ≤ (Pl.keysTo' n 23).length ∧ i = .int .i64 j ∧ o = .string T ∧ md = .bool m ∧ Hid (FmtAt n j T m) ∧ wr = w1) (fun _ _ i _ => (Pl.keysTo' n 23).length - (intOf i).toNat)
  case atStart => exact ⟨0, _, _, Nat.zero_le _, rfl, rfl, rfl, HS, rfl⟩
  clear HS
  case round =>
    obtain ⟨j, T, m, hj, rfl, rfl, rfl, HF, rfl⟩ := hrel
    obtain ⟨hTs, hT⟩ := HF.out
    by_cases hlt : j < (Pl.keysTo' n 23).length
    · have hji : (j : Int) < ((Pl.keysTo' n 23).length : Int) := by omega
      have hj0 : (0 : Int) ≤ (j : Int) := by omega
      obtain ⟨a1, c1', hf1, hle, _, _, _, hcells⟩ := HR1.out
      cases hf1
      obtain ⟨b, off, rfl, c1⟩ := hcells j _ (nats_at _ j hlt)
      have hk23 := HLT.out j hlt
      have HT := Lib.hid hT
      have HDr := Lib.hid (List.drop_eq_getElem_cons hlt)
      clear hcells hT HF
      generalize (Pl.keysTo' n 23)[j] = k at c1 hk23 HDr
      have hk0 : (0 : Int) ≤ (k : Int) := by omega
      have hk1 : (k : Int) ≤ 22 := by omega
      have hk2 : (k : Int) + 1 ≤ 23 := by omega
      have hk3 : (k : Int) ≤ (k : Int) + 1 := by omega
      have hTb : T.size ≤ 46 := by omega
      by_cases h13 : 13 ≤ k
      · have h13i : (13 : Int) ≤ (k : Int) := by omega
        cases m
        · have HN := Lib.hid (FmtAt.hy hTs HT.out HDr.out h13 hk23)
          clear HT HDr
          go_wp2
          go_roundw
          case rel => exact ⟨j + 1, _, true, by omega, by go_num, rfl, rfl, HN, by trivial⟩
          case measure => simp [intOf]; omega
        · have HN := Lib.hid (FmtAt.no hTs HT.out HDr.out (by simp) hk23)
          clear HT HDr
          go_wp2
          go_roundw
          case rel => exact ⟨j + 1, _, true, by omega, by go_num, rfl, rfl, HN, by trivial⟩
          case measure => simp [intOf]; omega
      · have h13i : ¬ (13 : Int) ≤ (k : Int) := by omega
        have HN := Lib.hid (FmtAt.no hTs HT.out HDr.out (fun h => h13 h.1) hk23)
        clear HT HDr
        go_wp2
        go_roundw
        case rel => exact ⟨j + 1, _, m, by omega, by go_num, rfl, rfl, HN, by trivial⟩
        case measure => simp [intOf]; omega
    · obtain rfl : j = (Pl.keysTo' n 23).length := by omega
      have hT2 := HF.out.done
      subst hT2
      clear HF hT hTs
      go_wp2
      go_ret2
      exact ⟨rfl, HB1.out⟩

/-- the reference's notation so far -/
def FmtAtS (n i : Nat) (T : ByteArray) (m h : Bool) : Prop := T.size ≤ 2 * i ∧ (Pl.fmtB n).data.toList = T.data.toList ++ Pl.fmtS m h ((Pl.keysTo' n 23).drop i)
theorem fmtS_start (n : Nat) : FmtAtS n 0 ⟨#[]⟩ false false := by
  refine ⟨Nat.zero_le _, ?_⟩
  show Pl.fmtK ((Pl.keysTo' n 23).any Pl.isMid) (Pl.keysTo' n 23) = [] ++ Pl.fmtS false false ((Pl.keysTo' n 23).drop 0)
  rw [List.drop_zero, List.nil_append, Pl.fmt_same _ _ _ (Pl.keys_sorted n 23), Bool.false_or, Bool.false_or]
theorem fmtS_hy {k : Nat} {r : List Nat} {m h : Bool} (h1 : 13 ≤ k ∧ (m || Pl.isMid k) = false ∧ h = false) : Pl.fmtS m h (k :: r) = 45 :: Pl.lab k :: Pl.fmtS (m || Pl.isMid k) true r := by
  conv => lhs; unfold Pl.fmtS
  rw [if_pos h1]
theorem fmtS_no {k : Nat} {r : List Nat} {m h : Bool} (h1 : ¬ (13 ≤ k ∧ (m || Pl.isMid k) = false ∧ h = false)) : Pl.fmtS m h (k :: r) = Pl.lab k :: Pl.fmtS (m || Pl.isMid k) h r := by
  conv => lhs; unfold Pl.fmtS
  rw [if_neg h1]
theorem FmtAtS.hy {n j k : Nat} {T : ByteArray} {m h : Bool} (hs : T.size ≤ 2 * j) (hT : (Pl.fmtB n).data.toList = T.data.toList ++ Pl.fmtS m h ((Pl.keysTo' n 23).drop j)) (hd : (Pl.keysTo' n 23).drop j = k :: (Pl.keysTo' n 23).drop (j + 1)) (h1 : 13 ≤ k ∧ (m || Pl.isMid k) = false ∧ h = false) (hk : k < 23) :
    FmtAtS n (j + 1) (T ++ ⟨#[45]⟩ ++ labT.extract k (k + 1)) (m || Pl.isMid k) true := by
  rw [lab_at hk]
  refine ⟨?_, ?_⟩
  · rw [ByteArray.size_append, ByteArray.size_append]
    show T.size + 1 + 1 ≤ _
    omega
  · rw [hT, hd, fmtS_hy h1, cat_list, cat_list, List.append_assoc, List.append_assoc]
    rfl
theorem FmtAtS.no {n j k : Nat} {T : ByteArray} {m h : Bool} (hs : T.size ≤ 2 * j) (hT : (Pl.fmtB n).data.toList = T.data.toList ++ Pl.fmtS m h ((Pl.keysTo' n 23).drop j)) (hd : (Pl.keysTo' n 23).drop j = k :: (Pl.keysTo' n 23).drop (j + 1)) (h1 : ¬ (13 ≤ k ∧ (m || Pl.isMid k) = false ∧ h = false)) (hk : k < 23) :
    FmtAtS n (j + 1) (T ++ labT.extract k (k + 1)) (m || Pl.isMid k) h := by
  rw [lab_at hk]
  refine ⟨?_, ?_⟩
  · rw [ByteArray.size_append]
    show T.size + 1 ≤ _
    omega
  · rw [hT, hd, fmtS_no h1, cat_list, List.append_assoc]
    rfl
theorem FmtAtS.done {n : Nat} {T : ByteArray} {m h : Bool} (hx : FmtAtS n (Pl.keysTo' n 23).length T m h) : T = Pl.fmtB n := by
  have h2 := hx.2
  rw [List.drop_length] at h2
  rw [show Pl.fmtS m h [] = [] from rfl, List.append_nil] at h2
  exact Pl.ba_ext h2.symm
theorem mid_in (k : Nat) : Pl.inB (k : Int) 8 12 = Pl.isMid k := by
  unfold Pl.inB Pl.isMid
  rw [Bool.eq_iff_iff]
  simp only [Bool.and_eq_true, decide_eq_true_iff]
  omega

set_option maxRecDepth 20000 in
set_option maxHeartbeats 1600000 in
theorem l2Format_any (n : Nat) (w : World) (hn : n < 8388608) : Calls Tryz.prog 178 #[.int .i64 n] w fun e w' => e = .returned (.string (Pl.fmtB n)) ∧ Below w.heap.size w w' := by
  have HK := Lib.hid (fun W => l2Keys_any n W hn)
  have HLT := Lib.hid (fun (i : Nat) (h : i < (Pl.keysTo' n 23).length) => (Pl.keysTo_lt (List.getElem_mem h)).1)
  have hkl := Pl.keysTo_len n 23
  have HS := Lib.hid (fmtS_start n)
  go_enter Tryz.func178, Tryz.ntmps178
  go_upto_region 5 with (go_at_call 199; (with_reducible refine (HK.out _).mono ?_); rintro e w1 ⟨kv, rfl, hown, hb⟩; obtain ⟨ka, kc, rfl⟩ := row_formK hown; have HB1 := Lib.hid hb; have HR1 := Lib.hid (Rows.of_own hown); clear hb hown)
  clear HK
  go_loopw [3, 5, 6, 7] (fun o md hy i wr => ∃ (j : Nat) (T : ByteArray) (m h : Bool), j ≤ (Pl.keysTo' n 23).length ∧ i = .int .i64 j ∧ o = .string T ∧ md = .bool m ∧ hy = .bool h ∧ Hid (FmtAtS n j T m h) ∧ wr = w1) (fun _ _ _ i _ => (Pl.keysTo' n 23).length - (intOf i).toNat)
  case atStart => exact ⟨0, _, _, _, Nat.zero_le _, rfl, rfl, rfl, rfl, HS, rfl⟩
  clear HS
  case round =>
    obtain ⟨j, T, m, h, hj, rfl, rfl, rfl, rfl, HF, rfl⟩ := hrel
    obtain ⟨hTs, hT⟩ := HF.out
    by_cases hlt : j < (Pl.keysTo' n 23).length
    · have hji : (j : Int) < ((Pl.keysTo' n 23).length : Int) := by omega
      have hj0 : (0 : Int) ≤ (j : Int) := by omega
      obtain ⟨a1, c1', hf1, hle, _, _, _, hcells⟩ := HR1.out
      cases hf1
      obtain ⟨b, off, rfl, c1⟩ := hcells j _ (nats_at _ j hlt)
      have hk23 := HLT.out j hlt
      have HT := Lib.hid hT
      have HDr := Lib.hid (List.drop_eq_getElem_cons hlt)
      clear hcells hT HF
      generalize (Pl.keysTo' n 23)[j] = k at c1 hk23 HDr
      have hk0 : (0 : Int) ≤ (k : Int) := by omega
      have hk1 : (k : Int) ≤ 22 := by omega
      have hk2 : (k : Int) + 1 ≤ 23 := by omega
      have hk3 : (k : Int) ≤ (k : Int) + 1 := by omega
      have hTb : T.size ≤ 46 := by omega
      have HI := Lib.hid (fun W => l1In_any (k : Int) 8 12 W)
      rw [mid_in] at HI
      by_cases h13 : 13 ≤ k ∧ (m || Pl.isMid k) = false ∧ h = false
      · have h13i : (12 : Int) < (k : Int) := by omega
        have HN := Lib.hid (FmtAtS.hy hTs HT.out HDr.out h13 hk23)
        obtain ⟨_, hm, rfl⟩ := h13
        rw [Bool.or_eq_false_iff] at hm
        obtain ⟨rfl, hmk⟩ := hm
        rw [hmk] at HI HN
        rw [Bool.or_false] at HN
        clear HT HDr
        go_wp2_with (go_at_call 117; (with_reducible refine (HI.out _).mono ?_); rintro e w2 ⟨rfl, rfl⟩)
        go_roundw
        case rel => exact ⟨j + 1, _, false, true, by omega, by go_num, rfl, rfl, rfl, HN, by trivial⟩
        case measure => simp [intOf]; omega
      · have HN := Lib.hid (FmtAtS.no hTs HT.out HDr.out h13 hk23)
        clear HT HDr
        cases m
        · cases hmk : Pl.isMid k
          · rw [hmk] at HI HN h13
            by_cases h14 : 13 ≤ k
            · have h13i : (12 : Int) < (k : Int) := by omega
              obtain rfl : h = true := by
                cases h
                · exact absurd ⟨h14, rfl, rfl⟩ h13
                · rfl
              go_wp2_with (go_at_call 117; (with_reducible refine (HI.out _).mono ?_); rintro e w2 ⟨rfl, rfl⟩)
              go_roundw
              case rel => exact ⟨j + 1, _, false, true, by omega, by go_num, rfl, rfl, rfl, HN, by trivial⟩
              case measure => simp [intOf]; omega
            · have h13i : ¬ (12 : Int) < (k : Int) := by omega
              go_wp2_with (go_at_call 117; (with_reducible refine (HI.out _).mono ?_); rintro e w2 ⟨rfl, rfl⟩)
              go_roundw
              case rel => exact ⟨j + 1, _, false, h, by omega, by go_num, rfl, rfl, rfl, HN, by trivial⟩
              case measure => simp [intOf]; omega
          · rw [hmk] at HI HN
            go_wp2_with (go_at_call 117; (with_reducible refine (HI.out _).mono ?_); rintro e w2 ⟨rfl, rfl⟩)
            all_goals go_roundw
            all_goals first
              | exact ⟨j + 1, _, true, h, by omega, by go_num, rfl, rfl, rfl, HN, by trivial⟩
              | (simp [intOf]; omega)
        · rw [Bool.true_or] at HN
          go_wp2_with (go_at_call 117; (with_reducible refine (HI.out _).mono ?_); rintro e w2 ⟨rfl, rfl⟩)
          all_goals go_roundw
          all_goals first
            | exact ⟨j + 1, _, true, h, by omega, by go_num, rfl, rfl, rfl, HN, by trivial⟩
            | (simp [intOf]; omega)
    · obtain rfl : j = (Pl.keysTo' n 23).length := by omega
      have hT2 := HF.out.done
      subst hT2
      clear HF hT hTs
      go_wp2
      go_ret
      exact ⟨rfl, HB1.out⟩

set_option maxRecDepth 20000 in
set_option maxHeartbeats 1600000 in
theorem l14Raw_any (n : Nat) (w : World) (h1 : 1 ≤ n) (hn : n < 8388608) : Calls Tryz.prog 158 #[.int .i64 n] w fun e w' => e = .returned (.string (Pl.rawB n)) ∧ Below w.heap.size w w' := by
  obtain ⟨c, r, hc, hr⟩ := Pl.fmt_head n h1 hn
  have HR := Lib.hid (Pl.raw_head hc hr)
  have HF := Lib.hid (fun W => l2Format_any n W hn)
  have hz := Pl.fmtB_len n
  have hsz : (Pl.fmtB n).size = r.length + 1 := by
    show (Pl.fmtB n).data.size = _
    rw [← Array.length_toList, hc]; rfl
  have hp : 0 < (Pl.fmtB n).size := by omega
  have hat : (Pl.fmtB n)[0] = c := by
    have h9 : (Pl.fmtB n).data.toList[0]? = some c := by rw [hc]; rfl
    rw [Array.getElem?_toList] at h9
    obtain ⟨_, h10⟩ := Array.getElem?_eq_some_iff.1 h9
    exact h10
  have hex : (Pl.fmtB n).extract 1 (Pl.fmtB n).size = ⟨⟨r⟩⟩ := by
    apply Pl.ba_ext
    rw [ByteArray.data_extract, Array.toList_extract, hc, hsz]
    simp [List.extract]
  have HX := Lib.hid (show Pl.rawB n = if c = 35 then ⟨#[61]⟩ ++ (Pl.fmtB n).extract 1 (Pl.fmtB n).size else Pl.fmtB n by rw [hex]; exact HR.out)
  clear hex HR hc hr
  generalize Pl.fmtB n = T at HF HX hz hsz hp hat
  have r0 : (T[0].toNat : Int) < 256 := by have := T[0].toNat_lt; omega
  have hz1 : (1 : Int) ≤ (T.size : Int) := by omega
  have hz0 : (0 : Int) < (T.size : Int) := by omega
  by_cases hc35 : c = 35
  · have hE := HX.out
    rw [if_pos hc35] at hE
    rw [hE]
    have t0 : (T[0].toNat : Int) = 35 := by rw [hat, hc35]; rfl
    clear HX hE hat hsz
    go_enter Tryz.func158, Tryz.ntmps158
    go_wp2_with (go_at_call 178; (with_reducible refine (HF.out _).mono ?_); rintro e w1 ⟨rfl, hb⟩)
    go_ret
    exact ⟨rfl, hb⟩
  · have hE := HX.out
    rw [if_neg hc35] at hE
    rw [hE]
    have t0 : ¬ (T[0].toNat : Int) = 35 := by
      intro e
      apply hc35
      rw [← hat]
      have h35 : (35 : UInt8).toNat = 35 := rfl
      exact UInt8.toNat_inj.1 (by omega)
    have t1 : ((T[0].toNat : Int) == 35) = false := beq_eq_false_iff_ne.2 t0
    clear HX hE hat hsz
    go_enter Tryz.func158, Tryz.ntmps158
    go_wp2_with (go_at_call 178; (with_reducible refine (HF.out _).mono ?_); rintro e w1 ⟨rfl, hb⟩)
    go_ret
    exact ⟨rfl, hb⟩

end Go.Proofs.YtdidgaibgkdjoaaGreatDoor
