/- The law ScriptParses returns true, whatever its argument. -/
import Derived.Test.YtpjocnembjocgaaDoorFits
import Derived.Test.YtpjocnembjocgaaDoorReads
import Derived.Test.YtpjocnembjocgaaDoorSame
import Derived.Test.YtpjocnembjocgaaDoorAwake
namespace Go.Proofs.YtpjocnembjocgaaDoor
open Go.RowKit Go.Mi

set_option maxHeartbeats 4000000 in
set_option maxRecDepth 100000 in
theorem parses_walk (s : ByteArray) (w : World) (hE : Env w) :
    Calls Tryd.prog 4 #[.string s] w fun e w' => e = .returned (.bool true) ∧ Below w.heap.size w w' := by
  refine post_hid ?_; intro R hR
  have HF := Lib.hid (parse_fits s)
  have HL := Lib.hid (parse_len s)
  by_cases hs : s.size ≤ 2000
  · go_enter Tryd.func4, Tryd.ntmps4
    go_wp2_with fail
    refine (awake_any w hE).mono ?_
    rintro e w1 ⟨rfl, hb1⟩
    have hE1 := hE.below hb1 hE.size
    have hs1 := hb1.size
    go_wp2_with fail
    refine (parse_any s w1 (by omega) hE1).mono ?_
    rintro e w2 ⟨v, rfl, hv, hb2⟩
    have hE2 := hE1.below hb2 hE1.size
    go_wp2_with fail
    refine (reads_any s w2 (by omega) hE2).mono ?_
    rintro e w3 ⟨v', rfl, hv', hb3⟩
    have hE3 := hE2.below hb3 hE2.size
    have hv3 := (Keeps.of_below (M := fun k => w2.heap.size ≤ k) hb3 (fun _ _ h => h)).owns hv (fun k hk e => by have := (hv.lt k hk).2; omega)
    generalize parseF s = r at *
    obtain ⟨xs, i, er⟩ := r
    have hsame := same_any xs HF.out (Nat.le_trans HL.out (by decide)) w3 hE3 v v' _ _ hv3 hv'
    go_wp2_with fail
    refine hsame.mono ?_
    rintro e w4 ⟨rfl, hb4⟩
    go_wp2
    try go_ret
    exact hR.out _ _ ⟨rfl, hb1.trans ((hb2.mono hs1).trans ((hb3.mono (Nat.le_trans hs1 hb2.size)).trans (hb4.mono (Nat.le_trans hs1 (Nat.le_trans hb2.size hb3.size)))))⟩
  · have hbig : (2000 : Int) < (s.size : Int) := by omega
    go_enter Tryd.func4, Tryd.ntmps4
    go_wp2_with fail
    refine (awake_any w hE).mono ?_
    rintro e w1 ⟨rfl, hb1⟩
    go_wp2
    try go_ret
    exact hR.out _ _ ⟨rfl, hb1⟩
end Go.Proofs.YtpjocnembjocgaaDoor
