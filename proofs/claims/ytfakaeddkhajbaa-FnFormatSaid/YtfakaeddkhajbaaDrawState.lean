/-
  CONTRACTS: the draw of a state.
-/
import Derived.Test.YtfakaeddkhajbaaDrawSeq
import Derived.Test.YtfakaeddkhajbaaStRender
import Derived.Deep.RegionLaw
import Derived.Deep.DeepCutAuto
namespace Go.Proofs.Ytfakaeddkhajbaa
open Go.RowKit

theorem St.read {v : Value} {m g B : Nat} {a b : World} {R : Nat} {s : Pl.Sta} (h : St a R s) (hd : Read v m g B a b) (hne : R ≠ g) : St b R s :=
  ⟨hd.cellK hne h.1, hd.cellK hne h.2.1, hd.cellK hne h.2.2.1, hd.cellK hne h.2.2.2.1, hd.cellK hne h.2.2.2.2.1, hd.thaw hne h.lt h.2.2.2.2.2⟩
theorem Read.setSt {v : Value} {m g B B0 : Nat} {a b : World} {R : Nat} {s0 : Pl.Sta} (h : Read v m g B a b) (h0 : Cur v m g B0 a) (hz : St b R s0) (hR : a.heap.size ≤ R) (s : Pl.Sta) :
    Read v m g B a (((((b.setCell ⟨R, 0, none⟩ (.string s.t)).setCell ⟨R, 1, none⟩ (.bool s.j)).setCell ⟨R, 2, none⟩ (.bool s.g)).setCell ⟨R, 3, none⟩ (.int .i64 s.c)).setCell ⟨R, 4, none⟩ (.int .i64 s.k)) :=
  h.grownNew h0 (hz.set s).2 (fun k hk => by injection hk with hk; omega)
theorem St.set1 {w : World} {b : Nat} {t : ByteArray} {j g : Bool} {c k : Int} (h : St w b ⟨t, j, g, c, k⟩) (x : ByteArray) : St (w.setCell ⟨b, 0, none⟩ (.string x)) b ⟨x, j, g, c, k⟩ := by
  obtain ⟨c0, c1, c2, c3, c4, hf⟩ := h
  have hf : ∀ i, w.frozen? ⟨b, i, none⟩ = false := hf
  dsimp only at c0 c1 c2 c3 c4
  refine ⟨?_, ?_, ?_, ?_, ?_, fun i => ?_⟩
  all_goals simp [go_sem, *]
theorem St.other {w : World} {b R : Nat} {s : Pl.Sta} (h : St w b s) (hne : b ≠ R) (i : Nat) (u : Value) : St (w.setCell ⟨R, i, none⟩ u) b s := h.grown (grown_set w R i u) hne

/-- a state, made in new memory -/
def DrawnT (v : Value) (m g B : Nat) (w : World) (e : Ending) (w' : World) : Prop :=
  (∃ (t : ByteArray) (j l : Bool) (c k : Int), e = .returned (.agg #[.string t, .bool j, .bool l, .int .i64 c, .int .i64 k]) ∧ t.size ≤ 2010 ∧ -1 ≤ c ∧ c ≤ 3 ∧ -1 ≤ k ∧ k ≤ 2010) ∧ Read v m g B w w'

theorem of_litPn {v : Value} {m g B n : Nat} {w0 w : World} (hn : w.heap.size = n) (l : List ByteArray) (P : ByteArray → Prop) (h : Read v m g B w0 w) (hB : B ≤ 1000000000) (h1 : 1 ≤ l.length) (h2 : l.length ≤ 60000) (hk : ∀ s ∈ l, P s) (E : TypeId) :
    Calls Try.prog 119 #[.pointer (some ⟨g, 0, none⟩), .slice (some ⟨n, 0, none⟩) l.length l.length] (w.alloc (.cells (strs l).toArray E)) (DrawnP v m g (B + 2) w0 P) := by
  subst hn; exact of_litP l P h hB h1 h2 hk E
def SomeSt (w : World) (e : Ending) (w' : World) : Prop :=
  ∃ (t : ByteArray) (j l : Bool) (c k : Int) (ok : Bool), e = .returned (.tuple #[.agg #[.string t, .bool j, .bool l, .int .i64 c, .int .i64 k], .bool ok]) ∧ t.size ≤ 2000 ∧ 0 ≤ c ∧ c ≤ 2 ∧ 0 ≤ k ∧ k ≤ 2000 ∧ Below w.heap.size w w'
theorem specApplyAtoms_some (t : ByteArray) (j g : Bool) (c k : Int) (v : Value) (l : List (Int × ByteArray)) (w : World) (ht : t.size ≤ maxLen) (hr : Rows w v l.length 2 (folds l)) (hf : ∀ p ∈ l, p.2.size ≤ maxLen) :
    Calls Try.prog 59 #[.agg #[.string t, .bool j, .bool g, .int .i64 c, .int .i64 k], v] w (SomeSt w) := by
  refine (specApplyAtoms_any t j g c k v l w ht hr hf).mono ?_
  rintro e w' ⟨he, hb⟩
  have h := Pl.sOk_told (Pl.apsOut_ok ⟨t, j, g, c, k⟩ l)
  exact ⟨_, _, _, _, _, _, he, h.1, h.2.2.1, h.2.2.2.1, h.2.2.2.2.1, by omega, hb⟩

theorem St.setK {w : World} {b : Nat} {t : ByteArray} {j g : Bool} {c k : Int} (h : St w b ⟨t, j, g, c, k⟩) (x : Int) : St (w.setCell ⟨b, 4, none⟩ (.int .i64 x)) b ⟨t, j, g, c, x⟩ := by
  obtain ⟨c0, c1, c2, c3, c4, hf⟩ := h
  have hf : ∀ i, w.frozen? ⟨b, i, none⟩ = false := hf
  dsimp only at c0 c1 c2 c3 c4
  refine ⟨?_, ?_, ?_, ?_, ?_, fun i => ?_⟩
  all_goals simp [go_sem, *]
theorem St.setC {w : World} {b : Nat} {t : ByteArray} {j g : Bool} {c k : Int} (h : St w b ⟨t, j, g, c, k⟩) (x : Int) : St (w.setCell ⟨b, 3, none⟩ (.int .i64 x)) b ⟨t, j, g, x, k⟩ := by
  obtain ⟨c0, c1, c2, c3, c4, hf⟩ := h
  have hf : ∀ i, w.frozen? ⟨b, i, none⟩ = false := hf
  dsimp only at c0 c1 c2 c3 c4
  refine ⟨?_, ?_, ?_, ?_, ?_, fun i => ?_⟩
  all_goals simp [go_sem, *]
def txtSz (w : World) (R : Nat) : Nat := match w.cell? ⟨R, 0, none⟩ with | some (.string b) => b.size | _ => 0
theorem St.txt {w : World} {R : Nat} {s : Pl.Sta} (h : St w R s) : txtSz w R = s.t.size := by unfold txtSz; rw [h.1]


set_option maxRecDepth 20000 in
set_option maxHeartbeats 1600000 in
theorem state_any {v : Value} {m g B : Nat} {w0 w : World} (h : Read v m g B w0 w) (hB : B ≤ 600000000) :
    Calls Try.prog 106 #[.pointer (some ⟨g, 0, none⟩)] w (DrawnT v m g (B + 20000) w0) := by
  have h1 := h.1
  have hg := h1.lt
  have hne : w.heap.size ≠ g := by omega
  have HA := Lib.hid ((Read.refl h1).alloc (.cells #[.string ⟨#[]⟩, .bool false, .bool false, .int .i64 0, .int .i64 0] 59))
  have HD := Lib.hid (Read.refl HA.out.1)
  have Z0 := Lib.hid (St.new w ⟨#[]⟩ false false 0 0 59)
  have HH := Lib.hid h; have HN := Lib.hid h1; clear h h1
  go_enter Try.func106, Try.ntmps106
  go_upto_region 2 with (first
    | (go_at_call 59; refine (specApplyAtoms_some _ _ _ _ _ _ _ _ HS.out (Rows.of_own O3.out) HK.out).mono ?_; rintro e w4 ⟨t, sj, sg, sc, sk, ok, rfl, ht, hc0, hc1, hk0, hk1, hb4⟩; have R4 := Lib.hid (R3.out.trans ⟨R3.out.1.keep hb4, ⟨hb4.os, hb4.tape, hb4.output, hb4.size, fun i hi _ => hb4.block i hi⟩⟩); have Z4 := Lib.hid (Z3.out.keep hb4); clear R3 Z3 O3 hb4)
    | (go_at_call 107; refine (sequence_any 5 (by decide) (Read.refl R2.out.1) (by omega)).mono ?_; rintro e w3 ⟨⟨lv, l, rfl, hown, hl, hk⟩, hd⟩; have O3 := Lib.hid hown; have R3 := Lib.hid (R2.out.trans hd); have Z3 := Lib.hid (Z2.out.read hd hne); have HK := Lib.hid (fun p hp => Nat.le_trans (Pl.atomOk_prt (hk p hp)).2 (by unfold maxLen; omega) : ∀ p ∈ l, p.2.size ≤ maxLen); clear R2 Z2 hown hd hk)
    | (go_at_call 103; refine (l12New_any _ _).mono ?_; rintro e w2 ⟨rfl, hb2⟩; have R2 := Lib.hid (R1.out.trans ⟨R1.out.1.keep hb2, ⟨hb2.os, hb2.tape, hb2.output, hb2.size, fun i hi _ => hb2.block i hi⟩⟩); have Z2 := Lib.hid (Z1.out.keep hb2); clear R1 Z1 hb2)
    | (go_at_call 119; refine (of_litPn (World.size_alloc _ _) [⟨#[]⟩, ⟨#[]⟩, ⟨#[115, 111]⟩, ⟨#[84, 104, 101, 32, 101, 110, 100, 46]⟩] (fun s => s.size ≤ 8) HD.out (by omega) (by decide) (by decide) (by decide) _).mono ?_; rintro e w1 ⟨⟨sa, rfl, hsa⟩, hd⟩; have HS := Lib.hid (Nat.le_trans hsa (by unfold maxLen; omega) : sa.size ≤ maxLen); have R1 := Lib.hid (HA.out.trans hd); have Z1 := Lib.hid (Z0.out.read hd hne); clear hd HD HA Z0 hsa))
  have ne4 : w4.heap.size ≠ g := by have := R4.out.2.size; omega
  have lt4 := Z4.out.lt
  have S5 := Lib.hid (St.new w4 t sj sg sc sk 59)
  have Z5 := Lib.hid (Z4.out.alloc (.cells #[.string t, .bool sj, .bool sg, .int .i64 sc, .int .i64 sk] 59))
  have R5 := Lib.hid (R4.out.alloc (.cells #[.string t, .bool sj, .bool sg, .int .i64 sc, .int .i64 sk] 59))
  clear R4 Z4
  go_upto_region 3 with (go_at_call 109; refine (pick_any 20 (Read.refl R5.out.1) (by omega) (by decide) (by decide)).mono ?_; rintro e w5 ⟨⟨ra, rfl, hra⟩, hd⟩; have S6 := Lib.hid (S5.out.read hd ne4); have Z6 := Lib.hid (Z5.out.read hd hne); have R6 := Lib.hid (R5.out.trans hd); clear hd S5 Z5 R5)
  have nez : w.heap.size ≠ w4.heap.size := by omega
  by_cases hr0 : ra = 0
  · subst hr0
    obtain ⟨s0, s1, s2, s3, s4, sf⟩ := S6.out
    dsimp only at s0 s1 s2 s3 s4
    go_upto_region 12 with (go_at_call 109; refine (pick_any (t.size + 3) (Read.refl R6.out.1) (by omega) (by omega) (by omega)).mono ?_; rintro e w6 ⟨⟨rb, rfl, hrb⟩, hd⟩; have S7 := Lib.hid (S6.out.read hd ne4); have Z7 := Lib.hid (Z6.out.read hd hne); have R7 := Lib.hid (R6.out.trans hd); clear hd S6 Z6 R6 s0 s1 s2 s3 s4 sf; obtain ⟨s0, s1, s2, s3, s4, sf⟩ := S7.out; dsimp only at s0 s1 s2 s3 s4; unfold thawed at sf)
    refine wp_named fun W hW => ?_
    have S := Lib.hid (show St W w4.heap.size ⟨t, sj, sg, sc, (rb : Int) - 1⟩ by rw [hW]; exact S7.out.setK _)
    have Z := Lib.hid (show St W w.heap.size _ by rw [hW]; exact Z7.out.other nez _ _)
    have R := Lib.hid (show Read v m g _ w W by rw [hW]; exact R7.out.setNew HN.out (by omega) _ _)
    clear hW S7 Z7 R7 s0 s1 s2 s3 s4 sf
    obtain ⟨s0, s1, s2, s3, s4, _⟩ := S.out
    obtain ⟨n0, n1, n2, n3, n4, nf⟩ := Z.out
    dsimp only [Pl.nil] at s0 s1 s2 s3 s4 n0 n1 n2 n3 n4
    unfold thawed at nf
    go_wp2
    refine bodyPost_ret (v := .agg #[.string (t), .bool sj, .bool sg, .int .i64 (sc), .int .i64 ((rb : Int) - 1)]) (by simp [results, Try.results106, go_sem, *]) rfl ⟨⟨_, _, _, _, _, rfl, ?_, ?_, ?_, ?_, ?_⟩, HH.out.trans ((R.out.setSt HN.out Z.out (Nat.le_refl _) ⟨t, sj, sg, sc, (rb : Int) - 1⟩).mono (by omega))⟩
    all_goals omega
  by_cases hr1 : ra = 1
  · subst hr1
    go_upto_region 12 with (go_at_call 109; refine (pick_any 5 (Read.refl R6.out.1) (by omega) (by omega) (by omega)).mono ?_; rintro e w6 ⟨⟨rb, rfl, hrb⟩, hd⟩; have S7 := Lib.hid (S6.out.read hd ne4); have Z7 := Lib.hid (Z6.out.read hd hne); have R7 := Lib.hid (R6.out.trans hd); clear hd S6 Z6 R6; obtain ⟨s0, s1, s2, s3, s4, sf⟩ := S7.out; dsimp only at s0 s1 s2 s3 s4; unfold thawed at sf)
    refine wp_named fun W hW => ?_
    have S := Lib.hid (show St W w4.heap.size ⟨t, sj, sg, (rb : Int) - 1, sk⟩ by rw [hW]; exact S7.out.setC _)
    have Z := Lib.hid (show St W w.heap.size _ by rw [hW]; exact Z7.out.other nez _ _)
    have R := Lib.hid (show Read v m g _ w W by rw [hW]; exact R7.out.setNew HN.out (by omega) _ _)
    clear hW S7 Z7 R7 s0 s1 s2 s3 s4 sf
    obtain ⟨s0, s1, s2, s3, s4, _⟩ := S.out
    obtain ⟨n0, n1, n2, n3, n4, nf⟩ := Z.out
    dsimp only [Pl.nil] at s0 s1 s2 s3 s4 n0 n1 n2 n3 n4
    unfold thawed at nf
    go_wp2
    refine bodyPost_ret (v := .agg #[.string (t), .bool sj, .bool sg, .int .i64 ((rb : Int) - 1), .int .i64 (sk)]) (by simp [results, Try.results106, go_sem, *]) rfl ⟨⟨_, _, _, _, _, rfl, ?_, ?_, ?_, ?_, ?_⟩, HH.out.trans ((R.out.setSt HN.out Z.out (Nat.le_refl _) ⟨t, sj, sg, (rb : Int) - 1, sk⟩).mono (by omega))⟩
    all_goals omega
  by_cases hr2 : ra = 2
  · subst hr2
    obtain ⟨s0, s1, s2, s3, s4, sf⟩ := S6.out
    dsimp only at s0 s1 s2 s3 s4
    have lt6 := S6.out.lt
    have hadd := fun (x : ByteArray) (hx : x.size ≤ 4) (W : World) => run_string_add_sum (P := Try.prog) W t x (by omega)
    go_upto_region 8 with fail
    go_region_law (first | (go_simp; go_at_call 119; refine (of_litP [⟨#[10]⟩, ⟨#[126]⟩, ⟨#[127]⟩, ⟨#[32]⟩] (fun s => s.size ≤ 4) (Read.refl (R6.out.1.drew)) (by omega) (by decide) (by decide) (by decide) _).mono ?_; rintro e w6 ⟨⟨sb, rfl, hsb⟩, hd⟩; have ha := hadd sb hsb; have S7 := Lib.hid (S6.out.drew.read hd ne4); have Z7 := Lib.hid (Z6.out.drew.read hd hne); have R7 := Lib.hid ((R6.out.to 1).trans hd); clear hd; obtain ⟨s0, s1, s2, s3, s4, sf⟩ := S7.out; dsimp only at s0 s1 s2 s3 s4; unfold thawed at sf))
    all_goals
      go_upto_region 12 with fail
      refine wp_named fun W hW => ?_
      have S := Lib.hid (show St W w4.heap.size ⟨t ++ sb, sj, sg, sc, sk⟩ by rw [hW]; exact S7.out.set1 _)
      have Z := Lib.hid (show St W w.heap.size _ by rw [hW]; exact Z7.out.other nez _ _)
      have R := Lib.hid (show Read v m g _ w W by rw [hW]; exact R7.out.setNew HN.out (by omega) _ _)
      have hsz : (t ++ sb).size ≤ 2004 := by rw [ByteArray.size_append]; omega
      clear hW S7 Z7 R7 s0 s1 s2 s3 s4 sf hadd ha
      obtain ⟨s0, s1, s2, s3, s4, _⟩ := S.out
      obtain ⟨n0, n1, n2, n3, n4, nf⟩ := Z.out
      dsimp only [Pl.nil] at s0 s1 s2 s3 s4 n0 n1 n2 n3 n4
      unfold thawed at nf
      go_wp2
      refine bodyPost_ret (v := .agg #[.string (t ++ sb), .bool sj, .bool sg, .int .i64 (sc), .int .i64 (sk)]) (by simp [results, Try.results106, go_sem, *]) rfl ⟨⟨_, _, _, _, _, rfl, ?_, ?_, ?_, ?_, ?_⟩, HH.out.trans ((R.out.setSt HN.out Z.out (Nat.le_refl _) ⟨t ++ sb, sj, sg, sc, sk⟩).mono (by omega))⟩
      all_goals omega
  by_cases hr3 : ra = 3
  · subst hr3
    go_wp2_with fail
    go_loopw [45] (fun _ wr => ∃ tx : ByteArray, tx.size ≤ 2003 ∧ St wr w4.heap.size ⟨tx, sj, sg, sc, sk⟩ ∧ St wr w.heap.size ⟨⟨#[]⟩, false, false, 0, 0⟩ ∧ Read v m g (B + 5000 + 2 * tx.size) w wr) (fun _ wr => 2010 - txtSz wr w4.heap.size)
    case atStart => exact ⟨t, by omega, S6.out, Z6.out, R6.out.mono (by omega)⟩
    clear S6 Z6 R6
    case round =>
      obtain ⟨tx, htx, hs, hz, hrd⟩ := hrel
      have S6 := Lib.hid hs; have Z6 := Lib.hid hz; have R6 := Lib.hid hrd
      clear hs hz hrd
      have hbx := size_x tx
      obtain ⟨s0, s1, s2, s3, s4, sf⟩ := S6.out
      dsimp only at s0 s1 s2 s3 s4
      have T6 := Lib.hid S6.out.txt
      go_upto_region 10 with fail
      go_region_law (first | (go_simp; go_at_call 109; refine (pick_any 8 (Read.refl (R6.out.1.drew)) (by omega) (by decide) (by decide)).mono ?_; rintro e w6 ⟨⟨rb, rfl, hrb⟩, hd⟩; have S7 := Lib.hid (S6.out.drew.read hd ne4); have Z7 := Lib.hid (Z6.out.drew.read hd hne); have R7 := Lib.hid ((R6.out.to 1).trans hd); clear hd; obtain ⟨s0, s1, s2, s3, s4, sf⟩ := S7.out; dsimp only at s0 s1 s2 s3 s4; unfold thawed at sf; have hwr := IntWalk.i64_in (1995 + (rb : Int)) (by omega)))
      all_goals
        have S := S7; have Z := Z7; have R := R7
        clear S7 Z7 R7 hwr
        by_cases hlt : (tx.size : Int) < 1995 + (rb : Int)
        · have hdt : decide ((tx.size : Int) < 1995 + (rb : Int)) = true := by simpa using hlt
          go_wp2
          go_roundw
          case rel => exact ⟨tx ++ ⟨#[120]⟩, by omega, S.out.set1 _, Z.out.other nez _ _, (R.out.setNew HN.out (by omega) _ _).mono (by omega)⟩
          case measure =>
            have h1 := (S.out.set1 (tx ++ ⟨#[120]⟩)).txt
            have h2 := T6.out
            dsimp only at h1 h2
            show 2010 - txtSz _ _ < 2010 - txtSz _ _
            rw [h1, h2]; omega
        · have hdt : decide ((tx.size : Int) < 1995 + (rb : Int)) = false := by simpa using hlt
          obtain ⟨s0, s1, s2, s3, s4, _⟩ := S.out
          obtain ⟨n0, n1, n2, n3, n4, nf⟩ := Z.out
          dsimp only [Pl.nil] at s0 s1 s2 s3 s4 n0 n1 n2 n3 n4
          unfold thawed at nf
          go_wp2
          refine bodyPost_ret (v := .agg #[.string (tx), .bool sj, .bool sg, .int .i64 (sc), .int .i64 (sk)]) (by simp [results, Try.results106, go_sem, *]) rfl ⟨⟨_, _, _, _, _, rfl, ?_, ?_, ?_, ?_, ?_⟩, HH.out.trans ((R.out.setSt HN.out Z.out (Nat.le_refl _) ⟨tx, sj, sg, sc, sk⟩).mono (by omega))⟩
          all_goals omega
  have S := S6; have Z := Z6; have R := R6
  have hr4 : 4 ≤ ra := by omega
  clear S6 Z6 R6
  obtain ⟨s0, s1, s2, s3, s4, _⟩ := S.out
  obtain ⟨n0, n1, n2, n3, n4, nf⟩ := Z.out
  dsimp only [Pl.nil] at s0 s1 s2 s3 s4 n0 n1 n2 n3 n4
  unfold thawed at nf
  go_wp2
  refine bodyPost_ret (v := .agg #[.string (t), .bool sj, .bool sg, .int .i64 (sc), .int .i64 (sk)]) (by simp [results, Try.results106, go_sem, *]) rfl ⟨⟨_, _, _, _, _, rfl, ?_, ?_, ?_, ?_, ?_⟩, HH.out.trans ((R.out.setSt HN.out Z.out (Nat.le_refl _) ⟨t, sj, sg, sc, sk⟩).mono (by omega))⟩
  all_goals omega

end Go.Proofs.Ytfakaeddkhajbaa
