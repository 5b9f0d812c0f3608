/- What Same does of two rows of the same steps. -/
import Derived.Test.YtpjocnembjocgaaDoorLine
import Derived.Deep.CutBlock
import Derived.Deep.RegionHeld3
import Derived.Deep.DeepCutAuto
namespace Go.Proofs.YtpjocnembjocgaaDoor
open Go.RowKit Go.Mi

theorem word_write (n : Int) (s : ByteArray) (w : World) : Calls Tryd.prog 93 #[.agg #[.int .i64 n, .string s]] w fun e w' => e = .returned (.string ⟨#[119, 114, 105, 116, 101]⟩) ∧ Below w.heap.size w w' := by
  go_enter Tryd.func93, Tryd.ntmps93
  go_wp2
  try go_ret
  exact ⟨rfl, (Below.refl _ _).alloc (Nat.le_refl _) _⟩
theorem word_read (n : Int) (w : World) : Calls Tryd.prog 95 #[.agg #[.int .i64 n]] w fun e w' => e = .returned (.string ⟨#[114, 101, 97, 100]⟩) ∧ Below w.heap.size w w' := by
  go_enter Tryd.func95, Tryd.ntmps95
  go_wp2
  try go_ret
  exact ⟨rfl, (Below.refl _ _).alloc (Nat.le_refl _) _⟩
theorem word_trim (n : Int) (w : World) : Calls Tryd.prog 97 #[.agg #[.int .i64 n]] w fun e w' => e = .returned (.string ⟨#[116, 114, 105, 109]⟩) ∧ Below w.heap.size w w' := by
  go_enter Tryd.func97, Tryd.ntmps97
  go_wp2
  try go_ret
  exact ⟨rfl, (Below.refl _ _).alloc (Nat.le_refl _) _⟩
theorem word_plain (s : ByteArray) (w : World) : Calls Tryd.prog 98 #[.agg #[.string s]] w fun e w' => e = .returned (.string s) ∧ Below w.heap.size w w' := by
  go_enter Tryd.func98, Tryd.ntmps98
  go_wp2
  try go_ret
  exact ⟨rfl, (Below.refl _ _).alloc (Nat.le_refl _) _⟩
theorem word_clean (b : Bool) (n : Int) (w : World) : Calls Tryd.prog 99 #[.agg #[.bool b, .int .i64 n]] w fun e w' => e = .returned (.string ⟨#[99, 108, 101, 97, 110]⟩) ∧ Below w.heap.size w w' := by
  go_enter Tryd.func99, Tryd.ntmps99
  go_wp2
  try go_ret
  exact ⟨rfl, (Below.refl _ _).alloc (Nat.le_refl _) _⟩
theorem word_member (s : ByteArray) (n : Int) (w : World) : Calls Tryd.prog 100 #[.agg #[.string s, .int .i64 n]] w fun e w' => e = .returned (.string s) ∧ Below w.heap.size w w' := by
  go_enter Tryd.func100, Tryd.ntmps100
  go_wp2
  try go_ret
  exact ⟨rfl, (Below.refl _ _).alloc (Nat.le_refl _) _⟩
theorem word_failAt (n m : Int) (w : World) : Calls Tryd.prog 101 #[.agg #[.int .i64 n, .int .i64 m]] w fun e w' => e = .returned (.string ⟨#[102, 97, 105, 108, 97, 116]⟩) ∧ Below w.heap.size w w' := by
  go_enter Tryd.func101, Tryd.ntmps101
  go_wp2
  try go_ret
  exact ⟨rfl, (Below.refl _ _).alloc (Nat.le_refl _) _⟩
theorem word_crash (n m : Int) (w : World) : Calls Tryd.prog 102 #[.agg #[.int .i64 n, .int .u64 m]] w fun e w' => e = .returned (.string ⟨#[99, 114, 97, 115, 104]⟩) ∧ Below w.heap.size w w' := by
  go_enter Tryd.func102, Tryd.ntmps102
  go_wp2
  try go_ret
  exact ⟨rfl, (Below.refl _ _).alloc (Nat.le_refl _) _⟩

theorem word_gen (s : St) (h : s ≠ .none) : ∃ t x f wd, s.val = .iface t x ∧ (∀ w, (method 250 t x "Word").run Tryd.prog w = .ok (f, x) w) ∧ (∀ w, (callFunc f #[x]).run Tryd.prog w = .ok (.enter f #[x]) w) ∧
    (∀ w, Calls Tryd.prog f #[x] w fun e w' => e = .returned (.string wd) ∧ Below w.heap.size w w') := by
  match s, h with
  | .write n t, _ => exact ⟨69, _, 93, _, rfl, fun w => mw_69 _ _ w, fun w => by kernel_rfl, fun w => word_write _ _ w⟩
  | .read n, _ => exact ⟨71, _, 95, _, rfl, fun w => mw_71 _ w, fun w => by kernel_rfl, fun w => word_read _ w⟩
  | .trim n, _ => exact ⟨72, _, 97, _, rfl, fun w => mw_72 _ w, fun w => by kernel_rfl, fun w => word_trim _ w⟩
  | .plain n, _ => exact ⟨74, _, 98, _, rfl, fun w => mw_74 _ w, fun w => by kernel_rfl, fun w => word_plain _ w⟩
  | .clean g n, _ => exact ⟨76, _, 99, _, rfl, fun w => mw_76 _ _ w, fun w => by kernel_rfl, fun w => word_clean _ _ w⟩
  | .member g n, _ => exact ⟨78, _, 100, _, rfl, fun w => mw_78 _ _ w, fun w => by kernel_rfl, fun w => word_member _ _ w⟩
  | .failAt g n, _ => exact ⟨80, _, 101, _, rfl, fun w => mw_80 _ _ w, fun w => by kernel_rfl, fun w => word_failAt _ _ w⟩
  | .crash g n, _ => exact ⟨82, _, 102, _, rfl, fun w => mw_82 _ _ w, fun w => by kernel_rfl, fun w => word_crash _ _ w⟩

theorem row_cell {w : World} {base n : Nat} {e : TypeId} {v : Value} {xs : List Value} (h : w.ownsRow base e 1 v n xs) (hn : 0 < n) :
    ∃ g cap, v = .slice (some ⟨g, 0, none⟩) n cap ∧ g < w.heap.size ∧ ∀ (k : Nat) y, xs[k]? = some y → w.cell? ⟨g, k, none⟩ = some y := by
  rcases h.2 with ⟨_, h0⟩ | ⟨g, cap, cur, rfl, hb, hg, hc, hm, hs, ht⟩
  · omega
  · refine ⟨g, cap, rfl, lt_of_heap hg, fun k y hk => ?_⟩
    have := h.cells (g := g) rfl k y hk
    rwa [show (⟨g, 0, none⟩ : Addr).add k = ⟨g, k, none⟩ by unfold Addr.add; split <;> simp_all] at this

theorem shape_row' {w : World} {base : Nat} {e : TypeId} {size : Nat} {v : Value} {n : Nat} {xs : List Value} (h : w.ownsRow base e size v n xs) : ∃ a cap, v = .slice a n cap := by
  rcases h.2 with ⟨rfl, h0⟩ | ⟨g, cap, cur, hv', _⟩
  · exact ⟨none, 0, by rw [h0]⟩
  · exact ⟨_, _, hv'⟩

set_option maxHeartbeats 4000000 in
set_option maxRecDepth 100000 in
theorem same_any (xs : List St) (hx : ∀ s ∈ xs, s ≠ .none ∧ s.fits) (hn : xs.length ≤ 1000000) (w : World) (hE : Env w) (v1 v2 : Value) (b1 b2 : Nat)
    (h1 : w.ownsRow b1 35 1 v1 xs.length (xs.map St.val)) (h2 : w.ownsRow b2 35 1 v2 xs.length (xs.map St.val)) :
    Calls Tryd.prog 13 #[v1, v2] w fun e w' => e = .returned (.bool true) ∧ Below w.heap.size w w' := by
  refine post_hid ?_; intro R hR
  rcases Nat.eq_zero_or_pos xs.length with hl0 | hl0
  · obtain ⟨a1, p1, rfl⟩ := shape_row' h1
    obtain ⟨a2, p2, rfl⟩ := shape_row' h2
    rw [hl0]
    go_enter Tryd.func13, Tryd.ntmps13
    go_wp2
    go_loopg [13] 0 (fun k v wr => v = .int .i64 0 ∧ wr = w)
    case atStart => exact ⟨rfl, rfl⟩
    case round =>
      obtain ⟨rfl, rfl⟩ := hrel
      go_wp2
      try go_ret
      exact hR.out _ _ ⟨rfl, Below.refl _ _⟩
  · obtain ⟨g1, p1, rfl, hg1, hc1⟩ := row_cell h1 hl0
    obtain ⟨g2, p2, rfl, hg2, hc2⟩ := row_cell h2 hl0
    clear h1 h2
    go_enter Tryd.func13, Tryd.ntmps13
    go_wp2
    go_loopg [13] xs.length (fun k v wr => ∃ i, k = xs.length - i ∧ v = .int .i64 i ∧ i ≤ xs.length ∧ Below w.heap.size w wr)
    case atStart => exact ⟨0, rfl, rfl, Nat.zero_le _, Below.refl _ _⟩
    case round =>
      obtain ⟨i, hk, rfl, hi, hbw⟩ := hrel
      have HK := Lib.hid hk; clear hk
      by_cases hlt : i < xs.length
      · obtain ⟨hne, hfit⟩ := hx xs[i] (List.getElem_mem hlt)
        obtain ⟨ty, x, f, wd, hv, hm, hcf, hwd⟩ := word_gen xs[i] hne
        have hl2 : ∀ W, Below w.heap.size w W → Calls Tryd.prog 15 #[.iface ty x] W fun e w' => e = .returned (.string ⟨(lineF xs[i]).toArray⟩) ∧ Below w.heap.size w w' := fun W hW => by
          have := line_any xs[i] hfit W (hE.below hW hE.size)
          rw [hv] at this
          exact this.mono fun e w' h => ⟨h.1, hW.trans (h.2.mono hW.size)⟩
        have hw2 : ∀ W, Below w.heap.size w W → Calls Tryd.prog f #[x] W fun e w' => e = .returned (.string wd) ∧ Below w.heap.size w w' := fun W hW => (hwd W).mono fun e w' h => ⟨h.1, hW.trans (h.2.mono hW.size)⟩
        have HL := Lib.hid hl2; clear hl2
        have HW := Lib.hid hw2; clear hw2 hwd hfit
        have d1 : wr.cell? ⟨g1, i, none⟩ = some (.iface ty x) := by rw [hbw.cell (p := ⟨g1, i, none⟩) hg1, hc1 i _ (by simp [hlt]; rfl), hv]
        have d2 : wr.cell? ⟨g2, i, none⟩ = some (.iface ty x) := by rw [hbw.cell (p := ⟨g2, i, none⟩) hg2, hc2 i _ (by simp [hlt]; rfl), hv]
        have HD := Lib.hid (show ∀ W, Below w.heap.size w W → W.cell? ⟨g1, i, none⟩ = some (.iface ty x) ∧ W.cell? ⟨g2, i, none⟩ = some (.iface ty x) from fun W hW =>
          ⟨by rw [hW.cell (p := ⟨g1, i, none⟩) hg1, hc1 i _ (by simp [hlt]; rfl), hv], by rw [hW.cell (p := ⟨g2, i, none⟩) hg2, hc2 i _ (by simp [hlt]; rfl), hv]⟩)
        clear hc1 hc2 hv
        generalize (⟨(lineF xs[i]).toArray⟩ : ByteArray) = LS at *
        go_upto_region 6 with fail
        go_cut [53] (fun v wx => v = .bool false ∧ Below w.heap.size w wx)
        case first =>
          go_region_held3 (fun W => Below w.heap.size w W ∧ W.cell? ⟨g1, i, none⟩ = some (.iface ty x) ∧ W.cell? ⟨g2, i, none⟩ = some (.iface ty x))
            (first | exact ⟨hb5, HD.out _ hb5⟩ | exact ⟨hbw.drew, HD.out _ hbw.drew⟩)
            (first
              | (go_at_call 15; refine (HL.out _ (by first | exact hb5 | exact hbw.drew)).mono ?_; rintro e w5 ⟨rfl, hb5⟩)
              | (refine (HW.out _ (by first | exact hb5 | exact hbw.drew)).mono ?_; rintro e w5 ⟨rfl, hb5⟩))
          all_goals (go_wp2_with fail; go_meet; exact ⟨rfl, hb5⟩)
        case rest =>
          obtain ⟨rfl, hb2⟩ := hcut
          go_wp2
          go_roundg (xs.length - (i + 1))
          case measure => rw [HK.out]; omega
          case rel => exact ⟨i + 1, rfl, by go_num, by omega, hb2⟩
      · have hie : ¬ ((i : Int) < (xs.length : Int)) := by omega
        go_wp2
        try go_ret
        exact hR.out _ _ ⟨rfl, hbw⟩
end Go.Proofs.YtpjocnembjocgaaDoor
