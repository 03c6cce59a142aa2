/-
  CONTRACTS: the draws of atoms, of lists of atoms: wordText, atom, anyAtom, sequence.
-/
import Derived.Test.YtdidgaibgkdjoaaGreatDoorDrawEd
import Derived.Test.YtdidgaibgkdjoaaGreatDoorAtomS
import Derived.Test.YtdidgaibgkdjoaaGreatDoorPlainAtoms
import Derived.Test.YtdidgaibgkdjoaaGreatDoorBasS
namespace Go.Proofs.YtdidgaibgkdjoaaGreatDoor
open Go.RowKit

/-- what a draw of a text leaves: a text of which P holds -/
def DrawnP (v : Value) (m g B : Nat) (w : World) (P : ByteArray → Prop) (e : Ending) (w' : World) : Prop := (∃ s : ByteArray, e = .returned (.string s) ∧ P s) ∧ Read v m g B w w'

set_option maxHeartbeats 800000 in
theorem of_anyP {v : Value} {m g B : Nat} {w0 w : World} (lv : Value) (l : List ByteArray) (P : ByteArray → Prop) (hr : Rows w lv l.length 1 (strs l)) (hne : lv.ownBlock ≠ some g) (h1 : 1 ≤ l.length) (h2 : l.length ≤ 60000) (hk : ∀ s ∈ l, P s) (h : Read v m g B w0 w) (hB : B ≤ 1000000000) :
    Calls Tryz.prog 90 #[.pointer (some ⟨g, 0, none⟩), lv] w (DrawnP v m g (B + 2) w0 P) := by
  have HD := Lib.hid (Read.refl h.1)
  have HR := Lib.hid hr
  have HK := Lib.hid hk
  obtain ⟨a, cap, rfl, _, _, _, _, _⟩ := hr
  clear hk
  go_enter Tryz.func90, Tryz.ntmps90
  go_wp2_with (go_at_call 45; refine (pick_any l.length HD.out (by omega) h1 h2).mono ?_; rintro e w' ⟨⟨ra, rfl, hra⟩, hd⟩; replace HD := Lib.hid hd; clear hd; obtain ⟨a', cap', hv, _, _, _, _, hcells⟩ := rows_grown HR.out HD.out.2 (Or.inr hne); injection hv with ha' _ hc'; subst ha'; obtain ⟨b, off, rfl, hsrc⟩ := hcells ra _ (strs_at l ra hra); clear hcells)
  go_ret
  exact ⟨⟨_, rfl, HK.out _ (List.getElem_mem hra)⟩, h.trans HD.out⟩
theorem of_litP {v : Value} {m g B : Nat} {w0 w : World} (l : List ByteArray) (P : ByteArray → Prop) (h : Read v m g B w0 w) (hB : B ≤ 1000000000) (h1 : 1 ≤ l.length) (h2 : l.length ≤ 60000) (hk : ∀ s ∈ l, P s) (E : TypeId) :
    Calls Tryz.prog 90 #[.pointer (some ⟨g, 0, none⟩), .slice (some ⟨w.heap.size, 0, none⟩) l.length l.length] (w.alloc (.cells (strs l).toArray E)) (DrawnP v m g (B + 2) w0 P) :=
  of_anyP _ l P (rows_newS w l E (by omega)) (by have := h.1.lt; intro e; injection e with e; have e2 : w.heap.size = g := e; omega) h1 h2 hk (h.alloc _) hB

def okAs (a : Int) (s : ByteArray) : Prop := Pl.atomOk a s = true
theorem Pl.words_ok (a : Int) (ha : a = 1 ∨ a = 2 ∨ a = 3 ∨ a = 4 ∨ a = 5) (l : List ByteArray) (h : l.all Pl.wordT = true) : ∀ s ∈ l, okAs a s := by
  intro s hs
  unfold okAs
  rw [Pl.atomOk1 ha]
  exact List.all_eq_true.1 h s hs
theorem Pl.stops_ok : ∀ s ∈ ([⟨#[46]⟩, ⟨#[33]⟩, ⟨#[63]⟩] : List ByteArray), okAs 6 s := by
  intro s hs
  simp only [List.mem_cons, List.not_mem_nil, or_false] at hs
  unfold okAs
  rw [Pl.atomOk6, Pl.isStop, ba_toList]
  rcases hs with rfl | rfl | rfl <;> rfl
theorem Pl.pauses_ok : ∀ s ∈ ([⟨#[44]⟩, ⟨#[59]⟩, ⟨#[58]⟩] : List ByteArray), okAs 7 s := by
  intro s hs
  simp only [List.mem_cons, List.not_mem_nil, or_false] at hs
  unfold okAs
  rw [Pl.atomOk7, Pl.isPause, ba_toList]
  rcases hs with rfl | rfl | rfl <;> rfl
theorem Pl.caps_ok (r : Nat) (h : r < 3) : Pl.atomOk (8 + (r : Int)) ⟨#[]⟩ = true := by
  rw [Pl.atomOkE (by omega) (by omega) (by omega), ba_toList]
  simp [Pl.inB]; omega

set_option maxHeartbeats 800000 in
theorem wordText_any {v : Value} {m g B : Nat} {w0 w : World} (h : Read v m g B w0 w) (hB : B ≤ 900000000) :
    Calls Tryz.prog 169 #[.pointer (some ⟨g, 0, none⟩)] w (DrawnP v m g (B + 2) w0 (okAs 1)) := by
  have HD := Lib.hid h; clear h
  go_enter Tryz.func169, Tryz.ntmps169
  go_wp2_with ((go_at_call 90; refine (of_litP [⟨#[99, 97, 116]⟩, ⟨#[104, 97, 112, 112, 121]⟩, ⟨#[109, 97, 107, 101]⟩, ⟨#[114, 117, 110]⟩, ⟨#[116, 114, 121]⟩, ⟨#[98, 111, 120]⟩, ⟨#[100, 105, 101]⟩, ⟨#[97]⟩, ⟨#[71, 111]⟩, ⟨#[52, 50]⟩, ⟨#[100, 111, 110, 39, 116]⟩, ⟨#[98, 101, 101]⟩, ⟨#[115]⟩, ⟨#[105, 110, 103]⟩, ⟨#[99, 104, 117, 114, 99, 104]⟩, ⟨#[112, 108, 97, 121]⟩] (okAs 1) (by repeat (first | with_reducible exact HD.out | with_reducible apply Read.alloc | with_reducible apply Read.to)) (by omega) (by decide) (by decide) (Pl.words_ok 1 (by decide) _ (by decide)) _).mono ?_; rintro e w' ⟨⟨sa, rfl, hsa⟩, hd⟩; replace HD := Lib.hid hd; clear hd))
  go_ret
  exact ⟨⟨_, rfl, hsa⟩, HD.out⟩

/-- an atom, made in new memory -/
def DrawnA (v : Value) (m g B : Nat) (w : World) (P : Int → ByteArray → Prop) (e : Ending) (w' : World) : Prop := (∃ (a : Int) (x : ByteArray), e = .returned (.agg #[.int .i64 a, .string x]) ∧ P a x) ∧ Read v m g B w w'

theorem kept2 (w : World) (T : TypeId) : (w.alloc (.cells #[.int .i64 0, .string ⟨#[]⟩] T)).cell? ⟨w.heap.size, 0, none⟩ = some (.int .i64 0) ∧ (w.alloc (.cells #[.int .i64 0, .string ⟨#[]⟩] T)).cell? ⟨w.heap.size, 1, none⟩ = some (.string ⟨#[]⟩) ∧ thawed (w.alloc (.cells #[.int .i64 0, .string ⟨#[]⟩] T)) w.heap.size := by
  refine ⟨?_, ?_, fun i => ?_⟩
  all_goals simp [go_sem]

set_option maxHeartbeats 1600000 in
theorem atom_any {v : Value} {m g B : Nat} {w0 w : World} (h : Read v m g B w0 w) (hB : B ≤ 800000000) :
    Calls Tryz.prog 141 #[.pointer (some ⟨g, 0, none⟩)] w (DrawnA v m g (B + 10) w0 okAs) := by
  have h1 := h.1
  have hg := h1.lt
  have hne : w.heap.size ≠ g := by omega
  have hlt : w.heap.size < (w.alloc (.cells #[.int .i64 0, .string ⟨#[]⟩] 161)).heap.size := by rw [World.size_alloc]; omega
  have HA := Lib.hid ((Read.refl h1).alloc (.cells #[.int .i64 0, .string ⟨#[]⟩] 161))
  have HD := Lib.hid (Read.refl HA.out.1)
  have C := Lib.hid (kept2 w 161)
  have HH := Lib.hid h; have HN := Lib.hid h1; clear h h1
  go_enter Tryz.func141, Tryz.ntmps141
  go_upto_region 2 with ((go_at_call 45; refine (pick_any 14 (by repeat (first | with_reducible exact HD.out | with_reducible apply Read.alloc | with_reducible apply Read.to)) (by omega) (by decide) (by decide)).mono ?_; rintro e w' ⟨⟨ra, rfl, hra⟩, hd⟩; replace HD := Lib.hid hd; clear hd))
  by_cases h8 : 8 ≤ ra
  · go_wp2_with ((go_at_call 169; refine (wordText_any (by repeat (first | with_reducible exact HD.out | with_reducible apply Read.alloc | with_reducible apply Read.to)) (by omega)).mono ?_; rintro e w' ⟨⟨sa, rfl, hsa⟩, hd⟩; replace HD := Lib.hid hd; clear hd); have hc0 := HD.out.cellK hne C.out.1; have hc1 := HD.out.cellK hne C.out.2.1; have hf0 := HD.out.thaw hne hlt C.out.2.2 0; have hf1 := HD.out.thaw hne hlt C.out.2.2 1)
    refine bodyPost_ret (v := .agg #[.int .i64 1, .string sa]) (by simp [results, Tryz.results141, go_sem, *]) rfl ⟨⟨_, _, rfl, hsa⟩, HH.out.trans (((HA.out.trans HD.out).setNew HN.out (Nat.le_refl _) 0 _).setNew HN.out (Nat.le_refl _) 1 _ |>.mono (by omega))⟩
  obtain rfl | rfl | rfl | rfl | rfl | rfl | rfl | rfl : ra = 0 ∨ ra = 1 ∨ ra = 2 ∨ ra = 3 ∨ ra = 4 ∨ ra = 5 ∨ ra = 6 ∨ ra = 7 := by omega
  · go_wp2_with ((go_at_call 90; refine (of_litP [⟨#[105, 110, 103]⟩, ⟨#[115]⟩, ⟨#[101, 100]⟩, ⟨#[110, 101, 115, 115]⟩, ⟨#[101, 114]⟩, ⟨#[108, 121]⟩] (okAs 2) (by repeat (first | with_reducible exact HD.out | with_reducible apply Read.alloc | with_reducible apply Read.to)) (by omega) (by decide) (by decide) (Pl.words_ok 2 (by decide) _ (by decide)) _).mono ?_; rintro e w' ⟨⟨sa, rfl, hsa⟩, hd⟩; replace HD := Lib.hid hd; clear hd); have hc0 := HD.out.cellK hne C.out.1; have hc1 := HD.out.cellK hne C.out.2.1; have hf0 := HD.out.thaw hne hlt C.out.2.2 0; have hf1 := HD.out.thaw hne hlt C.out.2.2 1)
    refine bodyPost_ret (v := .agg #[.int .i64 2, .string sa]) (by simp [results, Tryz.results141, go_sem, *]) rfl ⟨⟨_, _, rfl, hsa⟩, HH.out.trans (((HA.out.trans HD.out).setNew HN.out (Nat.le_refl _) 0 _).setNew HN.out (Nat.le_refl _) 1 _ |>.mono (by omega))⟩
  · go_wp2_with ((go_at_call 90; refine (of_litP [⟨#[105, 110, 103]⟩, ⟨#[115]⟩, ⟨#[101, 100]⟩, ⟨#[110, 101, 115, 115]⟩, ⟨#[101, 114]⟩, ⟨#[108, 121]⟩] (okAs 2) (by repeat (first | with_reducible exact HD.out | with_reducible apply Read.alloc | with_reducible apply Read.to)) (by omega) (by decide) (by decide) (Pl.words_ok 2 (by decide) _ (by decide)) _).mono ?_; rintro e w' ⟨⟨sa, rfl, hsa⟩, hd⟩; replace HD := Lib.hid hd; clear hd); have hc0 := HD.out.cellK hne C.out.1; have hc1 := HD.out.cellK hne C.out.2.1; have hf0 := HD.out.thaw hne hlt C.out.2.2 0; have hf1 := HD.out.thaw hne hlt C.out.2.2 1)
    refine bodyPost_ret (v := .agg #[.int .i64 2, .string sa]) (by simp [results, Tryz.results141, go_sem, *]) rfl ⟨⟨_, _, rfl, hsa⟩, HH.out.trans (((HA.out.trans HD.out).setNew HN.out (Nat.le_refl _) 0 _).setNew HN.out (Nat.le_refl _) 1 _ |>.mono (by omega))⟩
  · go_wp2_with ((go_at_call 90; refine (of_litP [⟨#[117, 110]⟩, ⟨#[114, 101]⟩, ⟨#[40]⟩] (okAs 3) (by repeat (first | with_reducible exact HD.out | with_reducible apply Read.alloc | with_reducible apply Read.to)) (by omega) (by decide) (by decide) (Pl.words_ok 3 (by decide) _ (by decide)) _).mono ?_; rintro e w' ⟨⟨sa, rfl, hsa⟩, hd⟩; replace HD := Lib.hid hd; clear hd); have hc0 := HD.out.cellK hne C.out.1; have hc1 := HD.out.cellK hne C.out.2.1; have hf0 := HD.out.thaw hne hlt C.out.2.2 0; have hf1 := HD.out.thaw hne hlt C.out.2.2 1)
    refine bodyPost_ret (v := .agg #[.int .i64 3, .string sa]) (by simp [results, Tryz.results141, go_sem, *]) rfl ⟨⟨_, _, rfl, hsa⟩, HH.out.trans (((HA.out.trans HD.out).setNew HN.out (Nat.le_refl _) 0 _).setNew HN.out (Nat.le_refl _) 1 _ |>.mono (by omega))⟩
  · go_wp2_with ((go_at_call 90; refine (of_litP [⟨#[45]⟩, ⟨#[47]⟩, ⟨#[39]⟩] (okAs 4) (by repeat (first | with_reducible exact HD.out | with_reducible apply Read.alloc | with_reducible apply Read.to)) (by omega) (by decide) (by decide) (Pl.words_ok 4 (by decide) _ (by decide)) _).mono ?_; rintro e w' ⟨⟨sa, rfl, hsa⟩, hd⟩; replace HD := Lib.hid hd; clear hd); have hc0 := HD.out.cellK hne C.out.1; have hc1 := HD.out.cellK hne C.out.2.1; have hf0 := HD.out.thaw hne hlt C.out.2.2 0; have hf1 := HD.out.thaw hne hlt C.out.2.2 1)
    refine bodyPost_ret (v := .agg #[.int .i64 4, .string sa]) (by simp [results, Tryz.results141, go_sem, *]) rfl ⟨⟨_, _, rfl, hsa⟩, HH.out.trans (((HA.out.trans HD.out).setNew HN.out (Nat.le_refl _) 0 _).setNew HN.out (Nat.le_refl _) 1 _ |>.mono (by omega))⟩
  · go_wp2_with ((go_at_call 90; refine (of_litP [⟨#[97]⟩, ⟨#[98]⟩, ⟨#[55]⟩] (okAs 5) (by repeat (first | with_reducible exact HD.out | with_reducible apply Read.alloc | with_reducible apply Read.to)) (by omega) (by decide) (by decide) (Pl.words_ok 5 (by decide) _ (by decide)) _).mono ?_; rintro e w' ⟨⟨sa, rfl, hsa⟩, hd⟩; replace HD := Lib.hid hd; clear hd); have hc0 := HD.out.cellK hne C.out.1; have hc1 := HD.out.cellK hne C.out.2.1; have hf0 := HD.out.thaw hne hlt C.out.2.2 0; have hf1 := HD.out.thaw hne hlt C.out.2.2 1)
    refine bodyPost_ret (v := .agg #[.int .i64 5, .string sa]) (by simp [results, Tryz.results141, go_sem, *]) rfl ⟨⟨_, _, rfl, hsa⟩, HH.out.trans (((HA.out.trans HD.out).setNew HN.out (Nat.le_refl _) 0 _).setNew HN.out (Nat.le_refl _) 1 _ |>.mono (by omega))⟩
  · go_wp2_with ((go_at_call 90; refine (of_litP [⟨#[46]⟩, ⟨#[33]⟩, ⟨#[63]⟩] (okAs 6) (by repeat (first | with_reducible exact HD.out | with_reducible apply Read.alloc | with_reducible apply Read.to)) (by omega) (by decide) (by decide) Pl.stops_ok _).mono ?_; rintro e w' ⟨⟨sa, rfl, hsa⟩, hd⟩; replace HD := Lib.hid hd; clear hd); have hc0 := HD.out.cellK hne C.out.1; have hc1 := HD.out.cellK hne C.out.2.1; have hf0 := HD.out.thaw hne hlt C.out.2.2 0; have hf1 := HD.out.thaw hne hlt C.out.2.2 1)
    refine bodyPost_ret (v := .agg #[.int .i64 6, .string sa]) (by simp [results, Tryz.results141, go_sem, *]) rfl ⟨⟨_, _, rfl, hsa⟩, HH.out.trans (((HA.out.trans HD.out).setNew HN.out (Nat.le_refl _) 0 _).setNew HN.out (Nat.le_refl _) 1 _ |>.mono (by omega))⟩
  · go_wp2_with ((go_at_call 90; refine (of_litP [⟨#[44]⟩, ⟨#[59]⟩, ⟨#[58]⟩] (okAs 7) (by repeat (first | with_reducible exact HD.out | with_reducible apply Read.alloc | with_reducible apply Read.to)) (by omega) (by decide) (by decide) Pl.pauses_ok _).mono ?_; rintro e w' ⟨⟨sa, rfl, hsa⟩, hd⟩; replace HD := Lib.hid hd; clear hd); have hc0 := HD.out.cellK hne C.out.1; have hc1 := HD.out.cellK hne C.out.2.1; have hf0 := HD.out.thaw hne hlt C.out.2.2 0; have hf1 := HD.out.thaw hne hlt C.out.2.2 1)
    refine bodyPost_ret (v := .agg #[.int .i64 7, .string sa]) (by simp [results, Tryz.results141, go_sem, *]) rfl ⟨⟨_, _, rfl, hsa⟩, HH.out.trans (((HA.out.trans HD.out).setNew HN.out (Nat.le_refl _) 0 _).setNew HN.out (Nat.le_refl _) 1 _ |>.mono (by omega))⟩
  · go_wp2_with ((go_at_call 45; refine (pick_any 3 (by repeat (first | with_reducible exact HD.out | with_reducible apply Read.alloc | with_reducible apply Read.to)) (by omega) (by decide) (by decide)).mono ?_; rintro e w' ⟨⟨ra, rfl, hra⟩, hd⟩; replace HD := Lib.hid hd; clear hd); have hc0 := HD.out.cellK hne C.out.1; have hc1 := HD.out.cellK hne C.out.2.1; have hf0 := HD.out.thaw hne hlt C.out.2.2 0; have hf1 := HD.out.thaw hne hlt C.out.2.2 1)
    refine bodyPost_ret (v := .agg #[.int .i64 (8 + (ra : Int)), .string ⟨#[]⟩]) (by simp [results, Tryz.results141, go_sem, *]) rfl ⟨⟨_, _, rfl, (Pl.caps_ok ra hra)⟩, HH.out.trans (((HA.out.trans HD.out).setNew HN.out (Nat.le_refl _) 0 _).setNew HN.out (Nat.le_refl _) 1 _ |>.mono (by omega))⟩

end Go.Proofs.YtdidgaibgkdjoaaGreatDoor
