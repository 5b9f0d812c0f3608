/- What the law's Line does: a step's line, as the document has it. -/
import Derived.Test.YtpjocnembjocgaaDoorParse
import Derived.Test.YtpjocnembjocgaaDoorAs
import Derived.Deep.RegionHeld3
import Derived.Deep.RegionWith
namespace Go.Proofs.YtpjocnembjocgaaDoor
open Go.RowKit Go.Mi

def numS (n : Nat) : List UInt8 := 32 :: Lib.decDigits n
/-- A step's line. -/
def lineF : St → List UInt8
  | .write n t => wWrite ++ numS n ++ [32, 34] ++ t ++ [34, 10]
  | .read n => wRead ++ numS n ++ [10]
  | .trim n => wTrim ++ numS n ++ [10]
  | .plain s => s ++ [10]
  | .clean g n => (if g then wGreedy else wWorth) ++ numS n ++ [10]
  | .member s m => s ++ numS m ++ [10]
  | .failAt m o => wFailat ++ numS m ++ numS o ++ [10]
  | .crash n k => wCrash ++ numS n ++ [32] ++ Lib.decDigits k ++ [10]
  | .none => []

/-- The numbers and texts of a step are such as may be. -/
def St.fits : St → Prop
  | .write n t => n ≤ 4611686018427387904 ∧ t.length ≤ 1000000000
  | .read n | .trim n | .clean _ n => n ≤ 4611686018427387904
  | .plain s => s.length ≤ 1000000000
  | .member s m => s.length ≤ 1000000000 ∧ m ≤ 4611686018427387904
  | .failAt m o => m ≤ 4611686018427387904 ∧ o ≤ 4611686018427387904
  | .crash n k => n ≤ 4611686018427387904 ∧ k < 18446744073709551616
  | .none => True

theorem itoa_any (n : Nat) (hn : n ≤ 4611686018427387904) (w : World) (hE : Env w) :
    Calls Tryd.prog 34 #[.int .i64 n] w fun e w' => e = .returned (.string ⟨(Lib.decDigits n).toArray⟩) ∧ Below w.heap.size w w' := by
  refine (Tryd.strconv_Itoa n (by omega) (by omega) w hE.pow).mono ?_
  rintro e w' ⟨rfl, k, os, rfl⟩
  exact ⟨by rw [Lib.itoa_nonneg], below_grow _ _ _⟩

theorem digits_le (n : Nat) (hn : n < 18446744073709551616) : (Lib.decDigits n).length ≤ 20 := by
  by_cases h : 1 ≤ n
  · rw [Lib.decDigits_length]; have := Lib.numDigits_eq n h hn; split at this <;> omega
  · have : n = 0 := by omega
    subst this
    rw [show Lib.decDigits 0 = [48] by kernel_rfl]; decide

theorem bapp (a b : List UInt8) : (⟨a.toArray⟩ : ByteArray) ++ ⟨b.toArray⟩ = ⟨(a ++ b).toArray⟩ := by
  apply ByteArray.ext
  simp

set_option maxRecDepth 100000 in
theorem num_any (n : Nat) (hn : n ≤ 4611686018427387904) (w : World) (hE : Env w) :
    Calls Tryd.prog 33 #[.int .i64 n] w fun e w' => e = .returned (.string ⟨(numS n).toArray⟩) ∧ Below w.heap.size w w' := by
  refine post_hid ?_; intro R hR
  have hd := digits_le n (by omega)
  have HS := Lib.hid (show numS n = [32] ++ Lib.decDigits n from rfl)
  generalize numS n = S at *
  go_enter Tryd.func33, Tryd.ntmps33
  go_wp2_with fail
  refine (itoa_any n hn w hE).mono ?_
  rintro e w1 ⟨rfl, hb⟩
  generalize Lib.decDigits n = d at *
  go_wp2
  try go_ret
  exact hR.out _ _ ⟨by rw [HS.out, ← bapp]; rfl, hb⟩

theorem numS_le (n : Nat) (hn : n ≤ 4611686018427387904) : (numS n).length ≤ 21 := by
  have := digits_le n (by omega)
  simp [numS]; omega

def LinePost (s : St) (w : World) (e : Ending) (w' : World) : Prop := e = .returned (.string ⟨(lineF s).toArray⟩) ∧ Below w.heap.size w w'

set_option maxHeartbeats 4000000 in
set_option maxRecDepth 100000 in
theorem line_read (n : Nat) (hn : n ≤ 4611686018427387904) (w : World) (hE : Env w) : Calls Tryd.prog 15 #[(St.read n).val] w (LinePost (St.read n) w) := by
  refine post_hid ?_; intro R hR
  have hd := numS_le n hn
  have HS := Lib.hid (show lineF (St.read n) = wRead ++ numS n ++ [10] from rfl)
  have hE1 : Env (w.alloc (.cells #[.int .i64 n] 71)) := hE.keeps (M := fun _ => False) (Keeps.alloc _ _) (fun _ _ h => h)
  have hb0 : Below w.heap.size w (w.alloc (.cells #[.int .i64 n] 71)) := (Below.refl _ _).alloc (Nat.le_refl _) _
  unfold St.val
  go_enter Tryd.func15, Tryd.ntmps15
  go_wp2_with fail
  refine (num_any n hn _ hE1).mono ?_
  rintro e w1 ⟨rfl, hb⟩
  go_wp2
  try go_ret
  exact hR.out _ _ ⟨by rw [HS.out]; simp only [← bapp]; rfl, hb0.trans (hb.mono (by simp))⟩

set_option maxHeartbeats 4000000 in
set_option maxRecDepth 100000 in
theorem line_trim (n : Nat) (hn : n ≤ 4611686018427387904) (w : World) (hE : Env w) : Calls Tryd.prog 15 #[(St.trim n).val] w (LinePost (St.trim n) w) := by
  refine post_hid ?_; intro R hR
  have hd := numS_le n hn
  have HS := Lib.hid (show lineF (St.trim n) = wTrim ++ numS n ++ [10] from rfl)
  have hE1 : Env (w.alloc (.cells #[.int .i64 n] 72)) := hE.keeps (M := fun _ => False) (Keeps.alloc _ _) (fun _ _ h => h)
  have hb0 : Below w.heap.size w (w.alloc (.cells #[.int .i64 n] 72)) := (Below.refl _ _).alloc (Nat.le_refl _) _
  unfold St.val
  go_enter Tryd.func15, Tryd.ntmps15
  go_wp2_with fail
  refine (num_any n hn _ hE1).mono ?_
  rintro e w1 ⟨rfl, hb⟩
  go_wp2
  try go_ret
  exact hR.out _ _ ⟨by rw [HS.out]; simp only [← bapp]; rfl, hb0.trans (hb.mono (by simp))⟩

set_option maxHeartbeats 4000000 in
set_option maxRecDepth 100000 in
theorem line_greedy (n : Nat) (hn : n ≤ 4611686018427387904) (w : World) (hE : Env w) : Calls Tryd.prog 15 #[(St.clean true n).val] w (LinePost (St.clean true n) w) := by
  refine post_hid ?_; intro R hR
  have hd := numS_le n hn
  have HS := Lib.hid (show lineF (St.clean true n) = wGreedy ++ numS n ++ [10] from rfl)
  have hE1 : Env (w.alloc (.cells #[.bool true, .int .i64 n] 76)) := hE.keeps (M := fun _ => False) (Keeps.alloc _ _) (fun _ _ h => h)
  have hb0 : Below w.heap.size w (w.alloc (.cells #[.bool true, .int .i64 n] 76)) := (Below.refl _ _).alloc (Nat.le_refl _) _
  unfold St.val
  go_enter Tryd.func15, Tryd.ntmps15
  go_wp2_with fail
  refine (num_any n hn _ hE1).mono ?_
  rintro e w1 ⟨rfl, hb⟩
  go_wp2
  try go_ret
  exact hR.out _ _ ⟨by rw [HS.out]; simp only [← bapp]; rfl, hb0.trans (hb.mono (by simp))⟩

set_option maxHeartbeats 4000000 in
set_option maxRecDepth 100000 in
theorem line_worth (n : Nat) (hn : n ≤ 4611686018427387904) (w : World) (hE : Env w) : Calls Tryd.prog 15 #[(St.clean false n).val] w (LinePost (St.clean false n) w) := by
  refine post_hid ?_; intro R hR
  have hd := numS_le n hn
  have HS := Lib.hid (show lineF (St.clean false n) = wWorth ++ numS n ++ [10] from rfl)
  have hE1 : Env (w.alloc (.cells #[.bool false, .int .i64 n] 76)) := hE.keeps (M := fun _ => False) (Keeps.alloc _ _) (fun _ _ h => h)
  have hb0 : Below w.heap.size w (w.alloc (.cells #[.bool false, .int .i64 n] 76)) := (Below.refl _ _).alloc (Nat.le_refl _) _
  unfold St.val
  go_enter Tryd.func15, Tryd.ntmps15
  go_wp2_with fail
  refine (num_any n hn _ hE1).mono ?_
  rintro e w1 ⟨rfl, hb⟩
  go_wp2
  try go_ret
  exact hR.out _ _ ⟨by rw [HS.out]; simp only [← bapp]; rfl, hb0.trans (hb.mono (by simp))⟩

set_option maxHeartbeats 4000000 in
set_option maxRecDepth 100000 in
theorem line_plain (s : List UInt8) (hs : s.length ≤ 1000000000) (w : World) (_hE : Env w) : Calls Tryd.prog 15 #[(St.plain s).val] w (LinePost (St.plain s) w) := by
  refine post_hid ?_; intro R hR
  have HS := Lib.hid (show lineF (St.plain s) = s ++ [10] from rfl)
  have hb0 : Below w.heap.size w (w.alloc (.cells #[.string ⟨s.toArray⟩] 74)) := (Below.refl _ _).alloc (Nat.le_refl _) _
  unfold St.val
  go_enter Tryd.func15, Tryd.ntmps15
  go_wp2
  try go_ret
  exact hR.out _ _ ⟨by rw [HS.out]; simp only [← bapp]; rfl, hb0⟩

set_option maxHeartbeats 4000000 in
set_option maxRecDepth 100000 in
theorem line_none  (w : World) (_hE : Env w) : Calls Tryd.prog 15 #[(St.none).val] w (LinePost (St.none) w) := by
  refine post_hid ?_; intro R hR
  unfold St.val
  go_enter Tryd.func15, Tryd.ntmps15
  go_wp2
  try go_ret
  exact hR.out _ _ ⟨rfl, Below.refl _ _⟩

set_option maxHeartbeats 4000000 in
set_option maxRecDepth 100000 in
theorem line_write (n : Nat) (hn : n ≤ 4611686018427387904) (t : List UInt8) (ht : t.length ≤ 1000000000) (w : World) (hE : Env w) : Calls Tryd.prog 15 #[(St.write n t).val] w (LinePost (St.write n t) w) := by
  refine post_hid ?_; intro R hR
  have hd := numS_le n hn
  have HS := Lib.hid (show lineF (St.write n t) = wWrite ++ numS n ++ [32, 34] ++ t ++ [34, 10] from rfl)
  have hE1 : Env (w.alloc (.cells #[.int .i64 n, .string ⟨t.toArray⟩] 69)).drew := hE.keeps (M := fun _ => False) ((Keeps.alloc _ _).trans (Keeps.drew _)) (fun _ _ h => h)
  have hb0 : Below w.heap.size w (w.alloc (.cells #[.int .i64 n, .string ⟨t.toArray⟩] 69)).drew := ((Below.refl _ _).alloc (Nat.le_refl _) _).drew
  unfold St.val
  go_enter Tryd.func15, Tryd.ntmps15
  have hc := num_any n hn _ hE1
  go_wp2_with fail
  go_region_with (go_at_call 33; refine hc.mono ?_; rintro e w1 ⟨rfl, hb⟩; (have hcell1 : w1.cell? ⟨w.heap.size, 1, none⟩ = some (.string ⟨t.toArray⟩) := by rw [hb.cell (p := ⟨w.heap.size, 1, none⟩) (by simp)]; simp [World.cell?_drew, World.cell?_alloc_new]))
  all_goals
    go_wp2
    try go_ret
    exact hR.out _ _ ⟨by rw [HS.out]; simp only [← bapp]; rfl, hb0.trans (hb.mono (by simp))⟩

set_option maxHeartbeats 4000000 in
set_option maxRecDepth 100000 in
theorem line_member (s : List UInt8) (hs : s.length ≤ 1000000000) (n : Nat) (hn : n ≤ 4611686018427387904) (w : World) (hE : Env w) : Calls Tryd.prog 15 #[(St.member s n).val] w (LinePost (St.member s n) w) := by
  refine post_hid ?_; intro R hR
  have hd := numS_le n hn
  have HS := Lib.hid (show lineF (St.member s n) = s ++ numS n ++ [10] from rfl)
  have hE1 : Env (w.alloc (.cells #[.string ⟨s.toArray⟩, .int .i64 n] 78)).drew := hE.keeps (M := fun _ => False) ((Keeps.alloc _ _).trans (Keeps.drew _)) (fun _ _ h => h)
  have hb0 : Below w.heap.size w (w.alloc (.cells #[.string ⟨s.toArray⟩, .int .i64 n] 78)).drew := ((Below.refl _ _).alloc (Nat.le_refl _) _).drew
  unfold St.val
  go_enter Tryd.func15, Tryd.ntmps15
  have hc := num_any n hn _ hE1
  go_wp2_with fail
  go_region_with (go_at_call 33; refine hc.mono ?_; rintro e w1 ⟨rfl, hb⟩; (have hcell1 : w1.cell? ⟨w.heap.size, 0, none⟩ = some (.string ⟨s.toArray⟩) := by rw [hb.cell (p := ⟨w.heap.size, 0, none⟩) (by simp)]; simp [World.cell?_drew, World.cell?_alloc_new]))
  all_goals
    go_wp2
    try go_ret
    exact hR.out _ _ ⟨by rw [HS.out]; simp only [← bapp]; rfl, hb0.trans (hb.mono (by simp))⟩

set_option maxHeartbeats 4000000 in
set_option maxRecDepth 100000 in
theorem line_failAt (n : Nat) (hn : n ≤ 4611686018427387904) (m : Nat) (hm : m ≤ 4611686018427387904) (w : World) (hE : Env w) : Calls Tryd.prog 15 #[(St.failAt n m).val] w (LinePost (St.failAt n m) w) := by
  refine post_hid ?_; intro R hR
  have hd := numS_le n hn
  have hd2 := numS_le m hm
  have HS := Lib.hid (show lineF (St.failAt n m) = wFailat ++ numS n ++ numS m ++ [10] from rfl)
  have hE1 : Env (w.alloc (.cells #[.int .i64 n, .int .i64 m] 80)).drew := hE.keeps (M := fun _ => False) ((Keeps.alloc _ _).trans (Keeps.drew _)) (fun _ _ h => h)
  have hb0 : Below w.heap.size w (w.alloc (.cells #[.int .i64 n, .int .i64 m] 80)).drew := ((Below.refl _ _).alloc (Nat.le_refl _) _).drew
  unfold St.val
  go_enter Tryd.func15, Tryd.ntmps15
  have hc := num_any n hn _ hE1
  go_wp2_with fail
  go_region_with (first | (go_at_call_of 33 (Value.int .i64 (n : Int)); refine hc.mono ?_; rintro e w1 ⟨rfl, hb⟩; (have hcell1 : w1.cell? ⟨w.heap.size, 1, none⟩ = some (.int .i64 m) := by rw [hb.cell (p := ⟨w.heap.size, 1, none⟩) (by simp)]; simp [World.cell?_drew, World.cell?_alloc_new]); (have hE2 : Env w1 := hE1.below hb hE1.size)) | (go_at_call_of 33 (Value.int .i64 (m : Int)); refine (num_any m hm w1 hE2).mono ?_; rintro e w2 ⟨rfl, hb2⟩))
  all_goals
    go_wp2
    try go_ret
    exact hR.out _ _ ⟨by rw [HS.out]; simp only [← bapp]; rfl, hb0.trans ((hb.mono (by simp)).trans (hb2.mono (by have := hb.size; simp at this; omega)))⟩

set_option maxHeartbeats 4000000 in
set_option maxRecDepth 100000 in
theorem line_crash (n : Nat) (hn : n ≤ 4611686018427387904) (m : Nat) (hm : m < 18446744073709551616) (w : World) (hE : Env w) : Calls Tryd.prog 15 #[(St.crash n m).val] w (LinePost (St.crash n m) w) := by
  refine post_hid ?_; intro R hR
  have hd := numS_le n hn
  have hd2 := digits_le m hm
  have HS := Lib.hid (show lineF (St.crash n m) = wCrash ++ numS n ++ [32] ++ Lib.decDigits m ++ [10] from rfl)
  have hE1 : Env (w.alloc (.cells #[.int .i64 n, .int .u64 m] 82)).drew := hE.keeps (M := fun _ => False) ((Keeps.alloc _ _).trans (Keeps.drew _)) (fun _ _ h => h)
  have hb0 : Below w.heap.size w (w.alloc (.cells #[.int .i64 n, .int .u64 m] 82)).drew := ((Below.refl _ _).alloc (Nat.le_refl _) _).drew
  unfold St.val
  go_enter Tryd.func15, Tryd.ntmps15
  have hc := num_any n hn _ hE1
  go_wp2_with fail
  go_region_with (first | (go_at_call_of 33 (Value.int .i64 (n : Int)); refine hc.mono ?_; rintro e w1 ⟨rfl, hb⟩; (have hcell1 : w1.cell? ⟨w.heap.size, 1, none⟩ = some (.int .u64 m) := by rw [hb.cell (p := ⟨w.heap.size, 1, none⟩) (by simp)]; simp [World.cell?_drew, World.cell?_alloc_new]); (have hE2 : Env w1 := hE1.below hb hE1.size)) | (go_at_call 35; refine (formatUint m hm w1 hE2.pow).mono ?_; rintro e w2 ⟨rfl, hb2⟩))
  all_goals
    go_wp2
    try go_ret
    exact hR.out _ _ ⟨by rw [HS.out]; simp only [← bapp]; rfl, hb0.trans ((hb.mono (by simp)).trans (hb2.mono (by have := hb.size; simp at this; omega)))⟩

theorem line_any (s : St) (hf : s.fits) (w : World) (hE : Env w) : Calls Tryd.prog 15 #[s.val] w (LinePost s w) := by
  match s, hf with
  | .write n t, h => exact line_write n h.1 t h.2 w hE
  | .read n, h => exact line_read n h w hE
  | .trim n, h => exact line_trim n h w hE
  | .plain s, h => exact line_plain s h w hE
  | .clean true n, h => exact line_greedy n h w hE
  | .clean false n, h => exact line_worth n h w hE
  | .member s n, h => exact line_member s h.1 n h.2 w hE
  | .failAt n m, h => exact line_failAt n h.1 m h.2 w hE
  | .crash n m, h => exact line_crash n h.1 m h.2 w hE
  | .none, _ => exact line_none w hE
end Go.Proofs.YtpjocnembjocgaaDoor
