/- Awake returns true. -/
import Derived.Test.YtpjocnembjocgaaDoorLine
namespace Go.Proofs.YtpjocnembjocgaaDoor
open Go.RowKit Go.Mi

def sAwake : ByteArray := ⟨#[119, 114, 105, 116, 101, 32, 51, 32, 34, 97, 98, 34]⟩
def sAwake2 : ByteArray := ⟨#[119, 114, 105, 116, 101, 32, 51]⟩
theorem parse_awake : parseF sAwake = ([.write 3 [97, 98]], 0, 0) := by kernel_rfl
theorem parse_awake2 : parseF sAwake2 = ([], 7, 4) := by kernel_rfl

set_option maxHeartbeats 1000000 in
set_option maxRecDepth 100000 in
theorem awake_any (w : World) (hE : Env w) : Calls Tryd.prog 10 #[] w fun e w' => e = .returned (.bool true) ∧ Below w.heap.size w w' := by
  refine post_hid ?_; intro R hR
  have h1 := parse_any sAwake w (by decide) hE
  rw [parse_awake] at h1
  unfold sAwake at h1
  have H1 := Lib.hid h1; clear h1
  go_enter Tryd.func10, Tryd.ntmps10
  go_wp2_with fail
  refine H1.out.mono ?_
  rintro e w1 ⟨v, rfl, hv, hb1⟩
  have hE1 := hE.below hb1 hE.size
  obtain ⟨g, cap, cur, rfl, hg, hcur, hcap⟩ : ∃ g cap cur, v = .slice (some ⟨g, 0, none⟩) 1 cap ∧ w.heap.size ≤ g ∧ w1.heap[g]? = some (.cells cur 35 (0, 0)) ∧ cur.toList.take 1 = [(St.write 3 [97, 98]).val] := by
    rcases hv.2 with ⟨_, h⟩ | ⟨g, cap, cur, h1, h2, h3, h4, h5, h6, h7⟩
    · cases h
    · exact ⟨g, cap, cur, h1, h2, h3, h7⟩
  have hcell : w1.cell? ⟨g, 0, none⟩ = some (St.write 3 [97, 98]).val := by
    rw [cell_blk hcur]
    cases hl : cur.toList with
    | nil => rw [hl] at hcap; cases hcap
    | cons a r =>
      rw [hl] at hcap
      simp at hcap
      rw [← Array.getElem?_toList, hl, ← hcap]; rfl
  clear hv hcap hcur
  have h2 := parse_any sAwake2 w1 (by decide) hE1
  rw [parse_awake2] at h2
  unfold sAwake2 at h2
  have H2 := Lib.hid h2; clear h2
  go_wp2_with fail
  refine H2.out.mono ?_
  rintro e w2 ⟨v2, rfl, _, hb2⟩
  have hE2 := hE1.below hb2 hE1.size
  have hcell2 : w2.cell? ⟨g, 0, none⟩ = some (St.write 3 [97, 98]).val := by rw [hb2.cell (World.block_lt_of_cell? _ _ hcell)]; exact hcell
  have h3 := line_any (St.write 3 [97, 98]) ⟨by decide, by decide⟩ w2 hE2
  have H3 := Lib.hid h3; clear h3
  go_wp2_with fail
  refine H3.out.mono ?_
  rintro e w3 ⟨rfl, hb3⟩
  have hl : lineF (St.write 3 [97, 98]) = [119, 114, 105, 116, 101, 32, 51, 32, 34, 97, 98, 34, 10] := by kernel_rfl
  rw [hl]
  go_wp2
  try go_ret
  exact hR.out _ _ ⟨rfl, (hb1.trans (hb2.mono hb1.size)).trans (hb3.mono (Nat.le_trans hb1.size hb2.size))⟩
end Go.Proofs.YtpjocnembjocgaaDoor
