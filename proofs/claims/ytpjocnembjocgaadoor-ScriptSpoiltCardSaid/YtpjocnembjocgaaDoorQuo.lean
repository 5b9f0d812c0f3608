/- What the scanner's quoted does. -/
import Derived.Test.YtpjocnembjocgaaDoorNum
namespace Go.Proofs.YtpjocnembjocgaaDoor
open Go.RowKit Go.Mi

/-- Is a sign none that ends a text? -/
def notq (r : Int) : Bool := !(r == 34) && !(r == 10)
def quoG (l : List Int) (a k : Nat) (d : List UInt8) : Int × Nat × List UInt8 :=
  if peekF l a = 34 then (if peekF l k = 34 then (0, k + 1, d) else (4, k, [])) else (4, a, [])
/-- What is read of a text between quotation marks. -/
def quoF (l : List Int) (i : Nat) : Int × Nat × List UInt8 :=
  quoG l (blanksF l i) (skipF notq l (blanksF l i + 1)) (enc (cut l (blanksF l i + 1) (skipF notq l (blanksF l i + 1))))
theorem quoF_eq (l : List Int) (i : Nat) : quoF l i = quoG l (blanksF l i) (skipF notq l (blanksF l i + 1)) (enc (cut l (blanksF l i + 1) (skipF notq l (blanksF l i + 1)))) := rfl

def QuoPost (T : TypeId) (b : Nat) (l : List Int) (r : Int × Nat × List UInt8) (w : World) (e : Ending) (w' : World) : Prop :=
  e = .returned (.string ⟨r.2.2.toArray⟩) ∧ Scan w' b T l r.2.1 r.1 ∧ Keeps (· = b) w w'

theorem quoted_bad {w : World} {b i : Nat} {l : List Int} {er : Int} (h : Scan w b 57 l i er) (he : er ≠ 0) :
    Calls Tryd.prog 42 #[.pointer (some ⟨b, 0, none⟩)] w fun e w' => e = .returned (.string ⟨#[]⟩) ∧ w = w' := by
  obtain ⟨_, c1, c2, f1, f2⟩ := h.cells
  have he' : (er != 0) = true := by simpa using he
  go_enter Tryd.func42, Tryd.ntmps42
  go_wp2
  try go_ret
  exact ⟨rfl, rfl⟩

set_option maxHeartbeats 2000000 in
set_option maxRecDepth 100000 in
theorem quoted_any {w : World} {b i : Nat} {l : List Int} (h : Scan w b 57 l i 0) (hl : ∀ r ∈ l, 0 ≤ r ∧ r ≤ 2147483647) :
    Calls Tryd.prog 42 #[.pointer (some ⟨b, 0, none⟩)] w (QuoPost 57 b l (quoF l i) w) := by
  refine post_hid ?_; intro R hR
  have hbw := h.lt
  obtain ⟨_, c1, c2, f1, f2⟩ := h.cells
  have HN := Lib.hid (quoF_eq l i)
  generalize hN : quoF l i = N at *
  clear hN
  go_enter Tryd.func42, Tryd.ntmps42
  go_wp2_with fail
  refine (blanks_any h).mono ?_; rintro e w1 ⟨rfl, hS1, hK1⟩
  obtain ⟨_, c1, c2, f1, f2⟩ := hS1.cells
  have ha := hS1.here
  have hal := hS1.len
  have hbw1 := hS1.lt
  generalize blanksF l i = a at *
  have h10 : notq 10 = false := rfl
  by_cases hq : peekF l a = 34
  · have hq' : (peekF l a != 34) = false := by simp [hq]
    have hal2 : a < l.length := by
      rcases Nat.lt_or_ge a l.length with hh | hh
      · exact hh
      · rw [peek_ge hh] at hq; cases hq
    have Hq := Lib.hid hq
    clear hq
    go_wp2_with fail
    refine (peek_any hS1).mono ?_; rintro e w2 ⟨rfl, n1, rfl⟩
    have hS1a := (hS1.drewN n1).set_i (a + 1) (by omega)
    have hK1a : Keeps (· = b) w ((w1.drewN n1).setCell ⟨b, 1, none⟩ (.int .i64 (a + 1 : Nat))) := (hK1.trans (Keeps.drewN _ _)).trans (Keeps.setCell _ _ _ (fun _ => rfl))
    have ea : ((a + 1 : Nat) : Int) = (a : Int) + 1 := by omega
    rw [ea] at hS1a hK1a
    clear ea
    have hI0 : Lib.IsBuilderF 90 5 w1.heap.size w1.heap.size [] (((w1.drewN n1).setCell ⟨b, 1, none⟩ (.int .i64 ((a : Int) + 1))).alloc (.cells #[.pointer none, .slice none 0 0] 90)) := by
      have := Lib.IsBuilderF.of (Lib.fresh_isBuilder 90 5 ((w1.drewN n1).setCell ⟨b, 1, none⟩ (.int .i64 ((a : Int) + 1))))
      rwa [World.size_setCell] at this
    have hS0 : Scan (((w1.drewN n1).setCell ⟨b, 1, none⟩ (.int .i64 ((a : Int) + 1))).alloc (.cells #[.pointer none, .slice none 0 0] 90)) b 57 l (a + 1) 0 := hS1a.keeps (M := fun _ => False) (Keeps.alloc _ _) (fun _ _ h => h)
    have hK0 : Keeps (· = b) w (((w1.drewN n1).setCell ⟨b, 1, none⟩ (.int .i64 ((a : Int) + 1))).alloc (.cells #[.pointer none, .slice none 0 0] 90)) := hK1a.trans (Keeps.alloc _ _)
    have hz0 : w1.heap.size < (((w1.drewN n1).setCell ⟨b, 1, none⟩ (.int .i64 ((a : Int) + 1))).alloc (.cells #[.pointer none, .slice none 0 0] 90)).heap.size := by simp
    have hzw : w.heap.size ≤ w1.heap.size := hK1.size
    go_wp2_with fail
    go_loopg [] (l.length - (a + 1)) (fun k wr => ∃ j, k = l.length - j ∧ a + 1 ≤ j ∧ Scan wr b 57 l j 0 ∧ Lib.IsBuilderF 90 5 w1.heap.size w1.heap.size (Lib.byteCells (enc (cut l (a + 1) j))) wr ∧ w1.heap.size < wr.heap.size ∧ Keeps (· = b) w wr ∧ skipF notq l j = skipF notq l (a + 1))
    case atStart => exact ⟨a + 1, rfl, Nat.le_refl _, hS0, by rw [cut_self]; exact hI0, hz0, hK0, rfl⟩
    case round =>
      clear hS0 hI0 hK0 hz0 hS1a hK1a hS1 hK1 h
      obtain ⟨j, hk, hij, hS, hI, hsz, hK, hB⟩ := hrel
      have HB := Lib.hid hB; clear hB
      have HK := Lib.hid hk; clear hk
      have hj := hS.here
      have hpb := peek_bounds hl j
      cases hp : notq (peekF l j) with
      | true =>
        have HP := Lib.hid (skip_yes notq h10 l j hp)
        have hp1 : (peekF l j != 34) = true := by simp [notq] at hp; simp [hp.1]
        have hp2 : (peekF l j != 10) = true := by simp [notq] at hp; simp [hp.2]
        clear hp
        go_wp2_with fail
        refine (peek_any hS).mono ?_; rintro e w2 ⟨rfl, n2, rfl⟩
        go_wp2_with fail
        refine (peek_any (hS.drewN n2)).mono ?_; rintro e w2 ⟨rfl, n3, rfl⟩
        have hS2 := hS.drewN (n2 + n3)
        go_wp2_with fail
        refine (peek_any hS2).mono ?_; rintro e w2 ⟨rfl, n4, rfl⟩
        go_wp2_with fail
        have hacc := enc_le (cut l (a + 1) j)
        have hcl := cut_le l (a + 1) j
        have hI3 : Lib.IsBuilderF 90 5 w1.heap.size w1.heap.size (Lib.byteCells (enc (cut l (a + 1) j))) (wr.drewN (n2 + n3 + n4)) := hI
        refine (writeRune_k w1.heap.size w1.heap.size _ (peekF l j) (by omega) (by omega) _ hI3 (by rw [Lib.byteCells_length]; omega) (by simp; omega)).mono ?_
        rintro e w2 ⟨rfl, h2, b2, k2⟩
        have hS4 := (hS.drewN (n2 + n3 + n4)).below b2 hbw1
        have hsz2 : wr.heap.size ≤ w2.heap.size := b2.size
        obtain ⟨_, d1, d2, g1, g2⟩ := hS4.cells
        go_wp2_with fail
        go_roundg (l.length - (j + 1))
        case measure => rw [HK.out]; have := HP.out.1; omega
        case rel =>
          have hjl := HP.out.1
          have hK4 : Keeps (· = b) w w2 := (hK.trans (Keeps.drewN _ _)).then (Keeps.of_below (M := fun k => w1.heap.size ≤ k) b2 (fun _ _ h => h)) (fun k hk e => by omega)
          refine ⟨j + 1, rfl, by omega, hS4.set_i (j + 1) (by omega), ?_, by simp; omega, hK4.trans (Keeps.setCell _ _ _ (fun _ => rfl)), ?_⟩
          · rw [cut_snoc hij hjl, enc_snoc, Lib.byteCells_append, Lib.byteCells_encodeRune]
            exact Or.inr (builder_keeps (M := (· = b)) (Keeps.setCell _ _ _ (fun _ => rfl)) h2 (fun k hk e => by omega))
          · rw [← HB.out, HP.out.2]
      | false =>
        have HP := Lib.hid (skip_no notq l j hp)
        by_cases hp1 : peekF l j = 34
        · have hp1' : (peekF l j != 34) = false := by simp [hp1]
          have HN' : Hid (N = (0, j + 1, enc (cut l (a + 1) j))) := Lib.hid (by rw [HN.out, ← HB.out, HP.out]; unfold quoG; rw [if_pos Hq.out, if_pos hp1])
          have hjl : j < l.length := by
            rcases Nat.lt_or_ge j l.length with hh | hh
            · exact hh
            · rw [peek_ge hh] at hp1; cases hp1
          clear hp hp1 HN
          go_wp2_with fail
          refine (peek_any hS).mono ?_; rintro e w2 ⟨rfl, n2, rfl⟩
          go_wp2_with fail
          refine (peek_any (hS.drewN n2)).mono ?_; rintro e w2 ⟨rfl, n3, rfl⟩
          have hSs := (hS.drewN (n2 + n3)).set_i (j + 1) (by omega)
          have hKs : Keeps (· = b) w ((wr.drewN (n2 + n3)).setCell ⟨b, 1, none⟩ (.int .i64 (j + 1 : Nat))) := (hK.trans (Keeps.drewN _ _)).trans (Keeps.setCell _ _ _ (fun _ => rfl))
          have hIs : Lib.IsBuilderF 90 5 w1.heap.size w1.heap.size (Lib.byteCells (enc (cut l (a + 1) j))) ((wr.drewN (n2 + n3)).setCell ⟨b, 1, none⟩ (.int .i64 (j + 1 : Nat))) := by
            rcases hI with hI | hI
            · exact .inl (builder_keeps (M := (· = b)) ((Keeps.drewN _ _).trans (Keeps.setCell _ _ _ (fun _ => rfl))) hI (fun k hk e => by omega))
            · exact .inr (builder_keeps (M := (· = b)) ((Keeps.drewN _ _).trans (Keeps.setCell _ _ _ (fun _ => rfl))) hI (fun k hk e => by omega))
          have ej : ((j + 1 : Nat) : Int) = (j : Int) + 1 := by omega
          rw [ej] at hSs hKs hIs
          clear ej
          obtain ⟨_, d1, d2, g1, g2⟩ := (hS.drewN (n2 + n3)).cells
          go_wp2_with fail
          refine (Tryd.Builder_String_any_k w1.heap.size w1.heap.size _ _ hIs (by simp; omega)).mono ?_
          rintro e w3 ⟨rfl, _, b1, _⟩
          go_wp2
          try go_ret
          exact hR.out _ _ ⟨by rw [HN'.out]; rfl, by rw [HN'.out]; exact hSs.below b1 hbw1, hKs.then (Keeps.of_below (M := fun k => w1.heap.size ≤ k) b1 (fun _ _ h => h)) (fun k hk e => by omega)⟩
        · have hp1' : (peekF l j != 34) = true := by simp [hp1]
          have hp2' : (peekF l j != 10) = false := by simp [notq] at hp; simp [hp hp1]
          have HN' : Hid (N = (4, j, [])) := Lib.hid (by rw [HN.out, ← HB.out, HP.out]; unfold quoG; rw [if_pos Hq.out, if_neg hp1])
          clear hp hp1 HN
          go_wp2_with fail
          refine (peek_any hS).mono ?_; rintro e w2 ⟨rfl, n2, rfl⟩
          go_wp2_with fail
          refine (peek_any (hS.drewN n2)).mono ?_; rintro e w2 ⟨rfl, n3, rfl⟩
          go_wp2_with fail
          refine (peek_any (hS.drewN (n2 + n3))).mono ?_; rintro e w2 ⟨rfl, n4, rfl⟩
          go_wp2_with fail
          refine (fail_any 4 (hS.drewN (n2 + n3 + n4))).mono ?_; rintro e w4 ⟨rfl, hS4, hK4⟩
          go_wp2
          try go_ret
          exact hR.out _ _ ⟨by rw [HN'.out]; rfl, by rw [HN'.out]; exact hS4, (hK.trans (Keeps.drewN _ _)).trans hK4⟩
  · have hq' : (peekF l a != 34) = true := by simp [hq]
    have HN' : Hid (N = (4, a, [])) := Lib.hid (by rw [HN.out]; unfold quoG; rw [if_neg hq])
    clear HN hq
    go_wp2_with fail
    refine (peek_any hS1).mono ?_; rintro e w2 ⟨rfl, n1, rfl⟩
    go_wp2_with fail
    refine (fail_any 4 (hS1.drewN n1)).mono ?_; rintro e w4 ⟨rfl, hS4, hK4⟩
    go_wp2
    try go_ret
    exact hR.out _ _ ⟨by rw [HN'.out]; rfl, by rw [HN'.out]; exact hS4, (hK1.trans (Keeps.drewN _ _)).trans hK4⟩
end Go.Proofs.YtpjocnembjocgaaDoor
