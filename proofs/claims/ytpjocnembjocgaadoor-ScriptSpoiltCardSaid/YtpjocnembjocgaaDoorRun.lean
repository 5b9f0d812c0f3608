/- What the scanner's run, number, quoted do. -/
import Derived.Test.YtpjocnembjocgaaDoorScan
import Derived.Test.YtpjocnembjocgaaDoorBuild
namespace Go.Proofs.YtpjocnembjocgaaDoor
open Go.RowKit Go.Mi

set_option maxHeartbeats 1000000 in
set_option maxRecDepth 100000 in
theorem run_any {w : World} {b i : Nat} {l : List Int} (lo hi : Int) (hlo : 11 ≤ lo) (h : Scan w b 57 l i 0) (hl : ∀ r ∈ l, 0 ≤ r ∧ r ≤ 2147483647) :
    Calls Tryd.prog 40 #[.pointer (some ⟨b, 0, none⟩), .int .i32 lo, .int .i32 hi] w fun e w' =>
      e = .returned (.string ⟨(enc (cut l i (skipF (inR lo hi) l i))).toArray⟩) ∧ Scan w' b 57 l (skipF (inR lo hi) l i) 0 ∧ Keeps (· = b) w w' := by
  refine post_hid ?_; intro R hR
  have hlen := h.len
  have hbw := h.lt
  have h10 : inR lo hi 10 = false := by unfold inR; rw [decide_eq_false (by omega)]; rfl
  go_enter Tryd.func40, Tryd.ntmps40
  go_wp2
  go_loopg [] (l.length - i) (fun k wr => ∃ j, k = l.length - j ∧ i ≤ j ∧ Scan wr b 57 l j 0 ∧ Lib.IsBuilderF 90 5 w.heap.size w.heap.size (Lib.byteCells (enc (cut l i j))) wr ∧ w.heap.size < wr.heap.size ∧ Keeps (· = b) w wr ∧ skipF (inR lo hi) l j = skipF (inR lo hi) l i)
  case atStart =>
    refine ⟨i, rfl, Nat.le_refl _, h.keeps (M := fun _ => False) (Keeps.alloc _ _) (fun _ _ h => h), ?_, by simp, Keeps.alloc _ _, rfl⟩
    rw [cut_self]
    exact Lib.IsBuilderF.of (Lib.fresh_isBuilder 90 5 w)
  case round =>
    obtain ⟨j, hk, hij, hS, hI, hsz, hK, hB⟩ := hrel
    have HB := Lib.hid hB; clear hB
    have HK := Lib.hid hk; clear hk
    have hj := hS.here
    obtain ⟨_, c1, c2, f1, f2⟩ := hS.cells
    have hpb := peek_bounds hl j
    by_cases hp : inR lo hi (peekF l j) = true
    · have HP := Lib.hid (skip_yes (inR lo hi) h10 l j hp)
      have hp1 : lo ≤ peekF l j := by simp [inR] at hp; exact hp.1
      have hp2 : peekF l j ≤ hi := by simp [inR] at hp; exact hp.2
      clear hp
      go_wp2_with fail
      refine (peek_any hS).mono ?_; rintro e w1 ⟨rfl, n1, rfl⟩
      have hS1 := hS.drewN n1
      go_wp2_with fail
      refine (peek_any hS1).mono ?_; rintro e w1 ⟨rfl, n2, rfl⟩
      have hS2 := hS.drewN (n1 + n2)
      go_wp2_with fail
      refine (peek_any hS2).mono ?_; rintro e w1 ⟨rfl, n3, rfl⟩
      go_wp2_with fail
      have hacc := enc_le (cut l i j)
      have hcl := cut_le l i j
      have hI3 : Lib.IsBuilderF 90 5 w.heap.size w.heap.size (Lib.byteCells (enc (cut l i j))) (wr.drewN (n1 + n2 + n3)) := hI
      refine (writeRune_k w.heap.size w.heap.size _ (peekF l j) (by omega) (by omega) _ hI3 (by rw [Lib.byteCells_length]; omega) (by simp; omega)).mono ?_
      rintro e w2 ⟨rfl, h2, b2, k2⟩
      have hS4 := (hS.drewN (n1 + n2 + n3)).below b2 hbw
      have hsz2 : wr.heap.size ≤ w2.heap.size := b2.size
      obtain ⟨_, d1, d2, g1, g2⟩ := hS4.cells
      go_wp2_with fail
      go_roundg (l.length - (j + 1))
      case measure => rw [HK.out]; have := HP.out.1; omega
      case rel =>
        have hjl := HP.out.1
        have hK4 : Keeps (· = b) w w2 := (hK.trans (Keeps.drewN _ _)).then (Keeps.of_below (M := fun k => w.heap.size ≤ k) b2 (fun _ _ h => h)) (fun k hk e => by omega)
        refine ⟨j + 1, rfl, by omega, hS4.set_i (j + 1) (by omega), ?_, by simp; omega, hK4.trans (Keeps.setCell _ _ _ (fun _ => rfl)), ?_⟩
        · rw [cut_snoc hij hjl, enc_snoc, Lib.byteCells_append, Lib.byteCells_encodeRune]
          exact Or.inr (builder_keeps (M := (· = b)) (Keeps.setCell _ _ _ (fun _ => rfl)) h2 (fun k hk e => by omega))
        · rw [← HB.out, HP.out.2]
    · have HP := Lib.hid (skip_no (inR lo hi) l j (by simpa using hp))
      have hend : ∀ wx, Lib.IsBuilderF 90 5 w.heap.size w.heap.size (Lib.byteCells (enc (cut l i j))) wx → Scan wx b 57 l j 0 → Keeps (· = b) w wx → w.heap.size ≤ wx.heap.size →
          Calls Tryd.prog 39 #[.pointer (some ⟨w.heap.size, 0, none⟩)] wx fun e w' => e = .returned (.string ⟨(enc (cut l i (skipF (inR lo hi) l i))).toArray⟩) ∧ Scan w' b 57 l (skipF (inR lo hi) l i) 0 ∧ Keeps (· = b) w w' := by
        intro wx hIx hSx hKx hszx
        refine (Tryd.Builder_String_any_k w.heap.size w.heap.size _ wx hIx hszx).mono ?_
        rintro e w' ⟨rfl, _, b1, _⟩
        rw [← HB.out, HP.out]
        exact ⟨rfl, hSx.below b1 hbw, hKx.then (Keeps.of_below (M := fun k => w.heap.size ≤ k) b1 (fun _ _ h => h)) (fun k hk e => by omega)⟩
      have HE := Lib.hid hend; clear hend
      by_cases hp1 : lo ≤ peekF l j
      · have hp2 : ¬ peekF l j ≤ hi := by simp [inR] at hp; have := hp hp1; omega
        clear hp
        go_wp2_with fail
        refine (peek_any hS).mono ?_; rintro e w1 ⟨rfl, n1, rfl⟩
        have hS1 := hS.drewN n1
        go_wp2_with fail
        refine (peek_any hS1).mono ?_; rintro e w1 ⟨rfl, n2, rfl⟩
        go_wp2_with fail
        refine (HE.out (wr.drewN (n1 + n2)) hI (hS.drewN _) (hK.trans (Keeps.drewN _ _)) (Nat.le_of_lt hsz)).mono ?_
        rintro e w2 ⟨rfl, hS2, hK2⟩
        go_wp2
        try go_ret
        exact hR.out _ _ ⟨rfl, hS2, hK2⟩
      · clear hp
        go_wp2_with fail
        refine (peek_any hS).mono ?_; rintro e w1 ⟨rfl, n1, rfl⟩
        go_wp2_with fail
        refine (HE.out (wr.drewN n1) hI (hS.drewN _) (hK.trans (Keeps.drewN _ _)) (Nat.le_of_lt hsz)).mono ?_
        rintro e w2 ⟨rfl, hS2, hK2⟩
        go_wp2
        try go_ret
        exact hR.out _ _ ⟨rfl, hS2, hK2⟩
end Go.Proofs.YtpjocnembjocgaaDoor
