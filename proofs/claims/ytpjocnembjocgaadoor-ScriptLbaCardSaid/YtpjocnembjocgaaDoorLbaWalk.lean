/- The law ScriptLba returns true, whatever the act. -/
import Derived.Test.YtpjocnembjocgaaDoorLba
import Derived.Test.YtpjocnembjocgaaDoorAwake
namespace Go.Proofs.YtpjocnembjocgaaDoor
open Go.RowKit Go.Mi

theorem act_ne (d a b k : Nat) (t : List UInt8) : actF d a b k t ≠ .none := by
  unfold actF
  (repeat' split) <;> (intro h; cases h)
theorem act_lba_yes (d a b k : Nat) (t : List UInt8) (h : d % 12 < 5) : (actF d a b k t).lba = some a := by
  unfold actF
  by_cases h1 : d % 12 ≤ 2
  · rw [if_pos h1]; rfl
  · rw [if_neg h1]
    by_cases h2 : d % 12 = 3
    · rw [if_pos h2]; rfl
    · rw [if_neg h2, if_pos (by omega)]; rfl
theorem act_lba_no (d a b k : Nat) (t : List UInt8) (h : ¬ d % 12 < 5) : (actF d a b k t).lba = Option.none := by
  unfold actF
  rw [if_neg (by omega), if_neg (by omega), if_neg (by omega)]
  (repeat' split) <;> rfl

theorem val_one (s : St) : s.val.oneCell' = true := by cases s <;> rfl
theorem val_shape (s : St) : s.val = .nilIface ∨ ∃ t x, s.val = .iface t x := by
  cases s
  case none => exact .inl rfl
  all_goals exact .inr ⟨_, _, rfl⟩

set_option maxHeartbeats 4000000 in
set_option maxRecDepth 100000 in
theorem lba_walk (d a b k : Nat) (t : List UInt8) (hd : d < 256) (ha : a < 65536) (hb : b < 65536) (w : World) (hE : Env w) :
    Calls Tryd.prog 6 #[actVal d a b k t] w fun e w' => e = .returned (.bool true) ∧ Below w.heap.size w w' := by
  refine post_hid ?_; intro R hR
  have hstep := act_any d a b k t hd ha hb
  have hne := act_ne d a b k t
  have hyes := act_lba_yes d a b k t
  have hno := act_lba_no d a b k t
  generalize actF d a b k t = s at *
  unfold actVal at *
  have HS := Lib.hid hstep; clear hstep
  have HNE := Lib.hid hne; clear hne
  have HY := Lib.hid hyes; clear hyes
  have HNO := Lib.hid hno; clear hno
  have hE0 : Env (w.alloc (.cells #[.int .u8 d, .int .u16 a, .int .u16 b, .int .u64 k, .string ⟨t.toArray⟩] 40)) := hE.keeps (M := fun _ => False) (Keeps.alloc _ _) (fun _ _ h => h)
  have hb0 : Below w.heap.size w (w.alloc (.cells #[.int .u8 d, .int .u16 a, .int .u16 b, .int .u64 k, .string ⟨t.toArray⟩] 40)) := (Below.refl _ _).alloc (Nat.le_refl _) _
  go_enter Tryd.func6, Tryd.ntmps6
  go_wp2_with fail
  refine (awake_any _ hE0).mono ?_
  rintro e w1 ⟨rfl, hb1⟩
  have hblk : w1.heap[w.heap.size]? = some (.cells #[.int .u8 d, .int .u16 a, .int .u16 b, .int .u64 k, .string ⟨t.toArray⟩] 40 (0, 0)) := by
    rw [hb1.block _ (by simp)]; exact alloc_new _ _
  have hbw1 : Below w.heap.size w w1 := hb0.trans (hb1.mono (by simp))
  clear hb0 hb1 hE0
  have hlt1 := lt_of_heap hblk
  have k0 : w1.cell? ⟨w.heap.size, 0, none⟩ = some (.int .u8 d) := by rw [cell_blk hblk]; rfl
  have k1 : w1.cell? ⟨w.heap.size, 1, none⟩ = some (.int .u16 a) := by rw [cell_blk hblk]; rfl
  have k2 : w1.cell? ⟨w.heap.size, 2, none⟩ = some (.int .u16 b) := by rw [cell_blk hblk]; rfl
  have k3 : w1.cell? ⟨w.heap.size, 3, none⟩ = some (.int .u64 k) := by rw [cell_blk hblk]; rfl
  have k4 : w1.cell? ⟨w.heap.size, 4, none⟩ = some (.string ⟨t.toArray⟩) := by rw [cell_blk hblk]; rfl
  go_wp2_with fail
  refine (HS.out w1).mono ?_
  rintro e w2 ⟨rfl, hb2⟩
  clear k0 k1 k2 k3 k4
  have hblk2 : w2.heap[w.heap.size]? = some (.cells #[.int .u8 d, .int .u16 a, .int .u16 b, .int .u64 k, .string ⟨t.toArray⟩] 40 (0, 0)) := by
    rw [hb2.block _ hlt1]; exact hblk
  have hbw2 : Below w.heap.size w w2 := hbw1.trans (hb2.mono hbw1.size)
  have hE2 := hE.below hbw2 hE.size
  have hlt2 := lt_of_heap hblk2
  clear hb2 hblk hbw1 hlt1
  have k0 : w2.cell? ⟨w.heap.size, 0, none⟩ = some (.int .u8 d) := by rw [cell_blk hblk2]; rfl
  have k1 : w2.cell? ⟨w.heap.size, 1, none⟩ = some (.int .u16 a) := by rw [cell_blk hblk2]; rfl
  have hw3 : Below w.heap.size w (w2.alloc (.cells #[s.val] 35)) := hbw2.alloc hbw2.size _
  have hE3 := hE.below hw3 hE.size
  have k1a : (w2.alloc (.cells #[s.val] 35)).cell? ⟨w.heap.size, 1, none⟩ = some (.int .u16 a) := by rw [World.cell?_alloc_lt _ _ _ hlt2]; exact k1
  have hsh := val_shape s
  generalize hv : s.val = v at *
  have HV := Lib.hid hv; clear hv
  rcases hsh with rfl | ⟨vt, vx, rfl⟩
  · exact absurd (by cases s <;> first | rfl | exact absurd HV.out (fun h => by cases h)) HNE.out
  · by_cases h5 : d % 12 < 5
    · have h5' : (d : Int) % 12 < 5 := by omega
      have hl := HY.out h5
      have ha1 := about_any s HNE.out
      have ha2 := lba_any s a hl
      rw [HV.out] at ha1 ha2
      rw [hl] at ha1
      have HA1 := Lib.hid ha1; have HA2 := Lib.hid ha2; clear ha1 ha2 hl
      have hwr : IntKind.i64.wrap (a : Int) = (a : Int) := by rw [IntKind.wrap_i64]; omega
      go_wp2_with fail
      go_region_with (first | (go_at_call 17; refine (HA1.out _).mono ?_; rintro e w4 ⟨rfl, rfl⟩) | (go_at_call 18; refine (HA2.out _).mono ?_; rintro e w5 ⟨rfl, hb5⟩; (have k5 : w5.cell? ⟨w.heap.size, 1, none⟩ = some (.int .u16 a) := (hb5.cell (p := ⟨w.heap.size, 1, none⟩) (by simp; omega)).trans k1a)))
      all_goals
        go_wp2
        try go_ret
        exact hR.out _ _ ⟨rfl, hw3.trans ((of_drewN (n := 1) hb5).mono (by simp; omega))⟩
    · have h5' : ¬ (d : Int) % 12 < 5 := by omega
      have hl := HNO.out h5
      have ha1 := about_any s HNE.out
      have ht := thrown_no s hl HNE.out
      rw [HV.out] at ha1 ht
      rw [hl] at ha1
      have HA1 := Lib.hid ha1; have HT := Lib.hid ht; clear ha1 ht hl
      have hmf : ∀ (fn : Fn) (first cap : Array Value) (w : World), (Instr.makeFunc fn first cap).run Tryd.prog w = .ok (.func fn first cap) w := fun _ _ _ _ => rfl
      go_wp2_with fail
      refine (HA1.out _).mono ?_; rintro e w4 ⟨rfl, rfl⟩
      go_wp2_with fail
      refine (HT.out _ _ (by simp) hE3).mono ?_; rintro e w5 ⟨rfl, hb5⟩
      go_wp2
      try go_ret
      exact hR.out _ _ ⟨rfl, hw3.trans (hb5.mono (by simp; omega))⟩
end Go.Proofs.YtpjocnembjocgaaDoor
