/- What the scanner's small methods do: peek, fail, blanks. -/
import Derived.Test.YtpjocnembjocgaaDoorProg
import Derived.Test.YtpjocnembjocgaaDoorBase
import Derived.Test.YtpjocnembjocgaaDoorPlain
import Derived.WalkKit
import Derived.WalkLawsBesides
import Derived.WalkSpells
import Derived.Deep.QuietTactic
import Derived.Deep.LoopGhost
import Derived.BigQuiet
import Derived.Lib.Hide
namespace Go.Proofs.YtpjocnembjocgaaDoor
open Go.RowKit Go.Mi

/-- A slice of runes that reads as a list. -/
def Runes (w : World) (v : Value) (l : List Int) : Prop := ∃ base, w.ownsRow base 21 1 v l.length (l.map (Value.int .i32))
theorem Runes.keeps {M : Nat → Prop} {w w' : World} {v : Value} {l : List Int} (h : Runes w v l) (hk : Keeps M w w') (hn : ∀ k, v.ownBlock = some k → ¬ M k) : Runes w' v l := by
  obtain ⟨base, ho⟩ := h; exact ⟨base, hk.owns ho hn⟩

/-- Block b is a scanner: its signs (their row lies ahead of b), its place, its error. -/
structure Scan (w : World) (b : Nat) (T : TypeId) (l : List Int) (i : Nat) (e : Int) : Prop where
  len : l.length ≤ 1000000
  here : i ≤ l.length + 1
  at_ : ∃ v, w.heap[b]? = some (.cells #[v, .int .i64 i, .int .i64 e] T (0, 0)) ∧ Runes w v l ∧ ∀ k, v.ownBlock = some k → k < b

theorem Scan.lt {w : World} {b T i : Nat} {l : List Int} {e : Int} (h : Scan w b T l i e) : b < w.heap.size := by
  obtain ⟨_, _, v, hv, _, _⟩ := h; exact lt_of_heap hv
theorem Scan.keeps {M : Nat → Prop} {w w' : World} {b T i : Nat} {l : List Int} {e : Int} (h : Scan w b T l i e) (hk : Keeps M w w') (hb : ∀ k, k ≤ b → ¬ M k) : Scan w' b T l i e := by
  obtain ⟨h1, h2, v, hv, ho, hn⟩ := h
  exact ⟨h1, h2, v, hk.heap hv (hb b (Nat.le_refl _)), ho.keeps hk (fun k hkk => hb k (Nat.le_of_lt (hn k hkk))), hn⟩
theorem Scan.drewN {w : World} {b T i : Nat} {l : List Int} {e : Int} (h : Scan w b T l i e) (n : Nat) : Scan (w.drewN n) b T l i e :=
  h.keeps (M := fun _ => False) (Keeps.drewN w n) (fun _ _ h => h)
theorem Scan.below {B : Nat} {w w' : World} {b T i : Nat} {l : List Int} {e : Int} (h : Scan w b T l i e) (hb : Below B w w') (hB : b < B) : Scan w' b T l i e :=
  h.keeps (M := fun k => B ≤ k) (Keeps.of_below hb (fun _ _ h => h)) (fun k hk e => by omega)
theorem Scan.set_i {w : World} {b T i : Nat} {l : List Int} {e : Int} (h : Scan w b T l i e) (j : Nat) (hj : j ≤ l.length + 1) : Scan (w.setCell ⟨b, 1, none⟩ (.int .i64 j)) b T l j e := by
  obtain ⟨h1, h2, v, hv, ho, hn⟩ := h
  refine ⟨h1, hj, v, by rw [set_blk hv]; rfl, ho.keeps (M := (· = b)) (Keeps.setCell _ _ _ (fun _ => rfl)) (fun k hk e => ?_), hn⟩
  have := hn k hk
  omega
theorem Scan.set_e {w : World} {b T i : Nat} {l : List Int} {e : Int} (h : Scan w b T l i e) (e' : Int) : Scan (w.setCell ⟨b, 2, none⟩ (.int .i64 e')) b T l i e' := by
  obtain ⟨h1, h2, v, hv, ho, hn⟩ := h
  refine ⟨h1, h2, v, by rw [set_blk hv]; rfl, ho.keeps (M := (· = b)) (Keeps.setCell _ _ _ (fun _ => rfl)) (fun k hk e => ?_), hn⟩
  have := hn k hk
  omega
/-- What the walk asks: its cells, and that they may be written. -/
theorem Scan.cells {w : World} {b T i : Nat} {l : List Int} {e : Int} (h : Scan w b T l i e) :
    (∃ v, w.cell? ⟨b, 0, none⟩ = some v) ∧ w.cell? ⟨b, 1, none⟩ = some (.int .i64 i) ∧ w.cell? ⟨b, 2, none⟩ = some (.int .i64 e) ∧
    w.frozen? ⟨b, 1, none⟩ = false ∧ w.frozen? ⟨b, 2, none⟩ = false := by
  obtain ⟨h1, h2, v, hv, ho, hn⟩ := h
  exact ⟨⟨v, by rw [cell_blk hv]; rfl⟩, by rw [cell_blk hv]; rfl, by rw [cell_blk hv]; rfl, free_blk hv _, free_blk hv _⟩
theorem Scan.row {w : World} {b T i : Nat} {l : List Int} {e : Int} (h : Scan w b T l i e) :
    (l = [] ∧ w.cell? ⟨b, 0, none⟩ = some (.slice none 0 0)) ∨
    ∃ g cap, w.cell? ⟨b, 0, none⟩ = some (.slice (some ⟨g, 0, none⟩) l.length cap) ∧ ∀ k, k < l.length → w.cell? ⟨g, k, none⟩ = some (.int .i32 (peekF l k)) := by
  obtain ⟨h1, h2, v, hv, ⟨base, ho⟩, hn⟩ := h
  have h0 : w.cell? ⟨b, 0, none⟩ = some v := by rw [cell_blk hv]; rfl
  rcases ho.2 with ⟨rfl, hl⟩ | ⟨g, cap, cur, rfl, hb, hg, hc, hm, hs, ht⟩
  · exact .inl ⟨List.eq_nil_of_length_eq_zero hl, h0⟩
  · refine .inr ⟨g, cap, h0, fun k hk => ?_⟩
    have := ho.cells (g := g) rfl k (.int .i32 (peekF l k)) (by simp [peek_lt hk, hk])
    rwa [show (⟨g, 0, none⟩ : Addr).add k = ⟨g, k, none⟩ by unfold Addr.add; split <;> simp_all] at this

theorem peek_any {w : World} {b i : Nat} {l : List Int} {er : Int} (h : Scan w b 57 l i er) :
    Calls Tryd.prog 26 #[.pointer (some ⟨b, 0, none⟩)] w fun e w' => e = .returned (.int .i32 (peekF l i)) ∧ ∃ k, w' = w.drewN k := by
  refine post_hid ?_; intro R hR
  obtain ⟨_, c1, _, _, _⟩ := h.cells
  have hl := h.len
  have hi' := h.here
  rcases h.row with ⟨hl0, c0⟩ | ⟨g, cap, c0, hc⟩
  · have H := Lib.hid (peek_ge (l := l) (i := i) (by simp [hl0])); clear hl0 hl h
    have h0 : ¬ ((i : Int) < 0) := by omega
    go_enter Tryd.func26, Tryd.ntmps26
    go_wp2
    go_quiet (fail)
    go_wp2
    try go_ret
    exact hR.out _ _ ⟨by rw [H.out]; rfl, _, rfl⟩
  · by_cases hi : i < l.length
    · have hr := hc i hi
      generalize peekF l i = r at *
      clear hc h
      go_enter Tryd.func26, Tryd.ntmps26
      go_wp2
      go_quiet (fail)
      go_wp2
      go_quiet (fail)
      go_wp2
      try go_ret
      exact hR.out _ _ ⟨rfl, _, World.drewN_drewN _ _ _⟩
    · have H := Lib.hid (peek_ge (l := l) (i := i) (by omega)); clear hc h
      go_enter Tryd.func26, Tryd.ntmps26
      go_wp2
      go_quiet (fail)
      go_wp2
      try go_ret
      exact hR.out _ _ ⟨by rw [H.out]; rfl, _, rfl⟩

theorem fail_any {w : World} {b i : Nat} {l : List Int} {er : Int} (c : Int) (h : Scan w b 57 l i er) :
    Calls Tryd.prog 28 #[.pointer (some ⟨b, 0, none⟩), .int .i64 c] w fun e w' => e = .returned (.tuple #[]) ∧ Scan w' b 57 l i (if er = 0 then c else er) ∧ Keeps (· = b) w w' := by
  refine post_hid ?_; intro R hR
  obtain ⟨_, c1, c2, f1, f2⟩ := h.cells
  by_cases he : er = 0
  · have hS := Lib.hid (h.set_e c)
    clear h
    have he' : (er == 0) = true := by simpa using he
    have he := Lib.hid he
    go_enter Tryd.func28, Tryd.ntmps28
    go_wp2
    go_end0
    exact hR.out _ _ ⟨rfl, by rw [if_pos he.out]; exact hS.out, Keeps.setCell _ _ _ (fun _ => rfl)⟩
  · have he' : (er == 0) = false := by simpa using he
    go_enter Tryd.func28, Tryd.ntmps28
    go_wp2
    go_end0
    exact hR.out _ _ ⟨rfl, by rw [if_neg he]; exact h, Keeps.refl _⟩

theorem blanks_any {w : World} {b i : Nat} {l : List Int} {er : Int} (h : Scan w b 57 l i er) :
    Calls Tryd.prog 25 #[.pointer (some ⟨b, 0, none⟩)] w fun e w' => e = .returned (.tuple #[]) ∧ Scan w' b 57 l (blanksF l i) er ∧ Keeps (· = b) w w' := by
  refine post_hid ?_; intro R hR
  go_enter Tryd.func25, Tryd.ntmps25
  go_wp2
  go_loopg [] (l.length - i) (fun k wr => ∃ j, k = l.length - j ∧ Scan wr b 57 l j er ∧ Keeps (· = b) w wr ∧ blanksF l j = blanksF l i)
  case atStart => exact ⟨i, rfl, h, Keeps.refl _, rfl⟩
  case round =>
    obtain ⟨j, hk, hS, hK, hB⟩ := hrel
    have HB := Lib.hid hB; clear hB
    have HK := Lib.hid hk; clear hk
    by_cases hp : peekF l j = 32
    · have HP := Lib.hid (skip_yes (· == 32) rfl l j (by simp [hp]))
      have hp' : (peekF l j == 32) = true := by simp [hp]
      clear hp
      have hj2 := hS.here; have hj3 := hS.len
      go_wp2_with (go_at_call 26; refine (peek_any hS).mono ?_; rintro e w1 ⟨rfl, n, rfl⟩; (have hc := (hS.drewN n).cells; obtain ⟨_, c1, c2, f1, f2⟩ := hc))
      go_roundg (l.length - (j + 1))
      case measure => rw [HK.out]; have := HP.out.1; omega
      case rel =>
        have hjl := HP.out.1
        refine ⟨j + 1, rfl, (hS.drewN n).set_i (j + 1) (by omega), (hK.trans (Keeps.drewN _ _)).trans (Keeps.setCell _ _ _ (fun _ => rfl)), ?_⟩
        rw [← HB.out]
        unfold blanksF; rw [HP.out.2]
    · have HP := Lib.hid (skip_no (· == 32) l j (by simp [hp]))
      have hp' : (peekF l j == 32) = false := by simp [hp]
      clear hp
      go_wp2_with (go_at_call 26; refine (peek_any hS).mono ?_; rintro e w1 ⟨rfl, n, rfl⟩)
      go_end0
      refine hR.out _ _ ⟨rfl, ?_, hK.trans (Keeps.drewN _ _)⟩
      rw [← HB.out]
      unfold blanksF; rw [HP.out]
      exact hS.drewN _
end Go.Proofs.YtpjocnembjocgaaDoor
