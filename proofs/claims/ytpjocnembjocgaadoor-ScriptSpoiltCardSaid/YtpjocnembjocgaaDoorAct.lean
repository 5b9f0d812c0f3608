/- What an Act's Step is. -/
import Derived.Test.YtpjocnembjocgaaDoorLine
namespace Go.Proofs.YtpjocnembjocgaaDoor
open Go.RowKit Go.Mi

def names (m : Nat) : List UInt8 := if m = 0 then wFlush else if m = 1 then wCkpt else if m = 2 then wRebuild else wCheck
/-- An act's step. -/
def actF (d a b k : Nat) (t : List UInt8) : St :=
  if d % 12 ≤ 2 then .write a t
  else if d % 12 = 3 then .read a
  else if d % 12 = 4 then .trim a
  else if d % 12 = 5 then .plain (names (b % 4))
  else if d % 12 = 6 then .clean true a
  else if d % 12 = 7 then .clean false a
  else if d % 12 = 8 then .member wFail a
  else if d % 12 = 9 then .member wReplace a
  else if d % 12 = 10 then .failAt a b
  else .crash a k

def actVal (d a b k : Nat) (t : List UInt8) : Value := .agg #[.int .u8 d, .int .u16 a, .int .u16 b, .int .u64 k, .string ⟨t.toArray⟩]

set_option maxHeartbeats 1000000 in
set_option maxRecDepth 100000 in
theorem act_0 (d a b k : Nat) (t : List UInt8) (hd : d < 256) (ha : a < 65536) (hb : b < 65536) (hr : d % 12 = 0) (w : World) :
    Calls Tryd.prog 16 #[actVal d a b k t] w fun e w' => e = .returned (actF d a b k t).val ∧ Below w.heap.size w w' := by
  refine post_hid ?_; intro R hR
  have hF : actF d a b k t = St.write a t := by unfold actF; simp [hr]
  rw [hF] at hR
  clear hF
  unfold actVal
  have e0 : ((d : Int) % 12 == 0) = true := by rw [beq_iff_eq]; omega
  have Hr := Lib.hid hr; clear hr
  go_enter Tryd.func16, Tryd.ntmps16
  go_wp2
  go_quiet (fail)
  go_wp2
  try go_ret
  exact hR.out _ _ ⟨rfl, (((Below.refl _ _).alloc (Nat.le_refl _) _).trans ⟨rfl, rfl, rfl, Nat.le_refl _, fun _ _ => rfl⟩)⟩

set_option maxHeartbeats 1000000 in
set_option maxRecDepth 100000 in
theorem act_1 (d a b k : Nat) (t : List UInt8) (hd : d < 256) (ha : a < 65536) (hb : b < 65536) (hr : d % 12 = 1) (w : World) :
    Calls Tryd.prog 16 #[actVal d a b k t] w fun e w' => e = .returned (actF d a b k t).val ∧ Below w.heap.size w w' := by
  refine post_hid ?_; intro R hR
  have hF : actF d a b k t = St.write a t := by unfold actF; simp [hr]
  rw [hF] at hR
  clear hF
  unfold actVal
  have e0 : ((d : Int) % 12 == 0) = false := by rw [beq_eq_false_iff_ne]; omega
  have e1 : ((d : Int) % 12 == 1) = true := by rw [beq_iff_eq]; omega
  have Hr := Lib.hid hr; clear hr
  go_enter Tryd.func16, Tryd.ntmps16
  go_wp2
  go_quiet (fail)
  go_wp2
  try go_ret
  exact hR.out _ _ ⟨rfl, (((Below.refl _ _).alloc (Nat.le_refl _) _).trans ⟨rfl, rfl, rfl, Nat.le_refl _, fun _ _ => rfl⟩)⟩

set_option maxHeartbeats 1000000 in
set_option maxRecDepth 100000 in
theorem act_2 (d a b k : Nat) (t : List UInt8) (hd : d < 256) (ha : a < 65536) (hb : b < 65536) (hr : d % 12 = 2) (w : World) :
    Calls Tryd.prog 16 #[actVal d a b k t] w fun e w' => e = .returned (actF d a b k t).val ∧ Below w.heap.size w w' := by
  refine post_hid ?_; intro R hR
  have hF : actF d a b k t = St.write a t := by unfold actF; simp [hr]
  rw [hF] at hR
  clear hF
  unfold actVal
  have e0 : ((d : Int) % 12 == 0) = false := by rw [beq_eq_false_iff_ne]; omega
  have e1 : ((d : Int) % 12 == 1) = false := by rw [beq_eq_false_iff_ne]; omega
  have e2 : ((d : Int) % 12 == 2) = true := by rw [beq_iff_eq]; omega
  have Hr := Lib.hid hr; clear hr
  go_enter Tryd.func16, Tryd.ntmps16
  go_wp2
  go_quiet (fail)
  go_wp2
  try go_ret
  exact hR.out _ _ ⟨rfl, (((Below.refl _ _).alloc (Nat.le_refl _) _).trans ⟨rfl, rfl, rfl, Nat.le_refl _, fun _ _ => rfl⟩)⟩

set_option maxHeartbeats 1000000 in
set_option maxRecDepth 100000 in
theorem act_3 (d a b k : Nat) (t : List UInt8) (hd : d < 256) (ha : a < 65536) (hb : b < 65536) (hr : d % 12 = 3) (w : World) :
    Calls Tryd.prog 16 #[actVal d a b k t] w fun e w' => e = .returned (actF d a b k t).val ∧ Below w.heap.size w w' := by
  refine post_hid ?_; intro R hR
  have hF : actF d a b k t = St.read a := by unfold actF; simp [hr]
  rw [hF] at hR
  clear hF
  unfold actVal
  have e0 : ((d : Int) % 12 == 0) = false := by rw [beq_eq_false_iff_ne]; omega
  have e1 : ((d : Int) % 12 == 1) = false := by rw [beq_eq_false_iff_ne]; omega
  have e2 : ((d : Int) % 12 == 2) = false := by rw [beq_eq_false_iff_ne]; omega
  have e3 : ((d : Int) % 12 == 3) = true := by rw [beq_iff_eq]; omega
  have Hr := Lib.hid hr; clear hr
  go_enter Tryd.func16, Tryd.ntmps16
  go_wp2
  go_quiet (fail)
  go_wp2
  try go_ret
  exact hR.out _ _ ⟨rfl, (((Below.refl _ _).alloc (Nat.le_refl _) _).trans ⟨rfl, rfl, rfl, Nat.le_refl _, fun _ _ => rfl⟩)⟩

set_option maxHeartbeats 1000000 in
set_option maxRecDepth 100000 in
theorem act_4 (d a b k : Nat) (t : List UInt8) (hd : d < 256) (ha : a < 65536) (hb : b < 65536) (hr : d % 12 = 4) (w : World) :
    Calls Tryd.prog 16 #[actVal d a b k t] w fun e w' => e = .returned (actF d a b k t).val ∧ Below w.heap.size w w' := by
  refine post_hid ?_; intro R hR
  have hF : actF d a b k t = St.trim a := by unfold actF; simp [hr]
  rw [hF] at hR
  clear hF
  unfold actVal
  have e0 : ((d : Int) % 12 == 0) = false := by rw [beq_eq_false_iff_ne]; omega
  have e1 : ((d : Int) % 12 == 1) = false := by rw [beq_eq_false_iff_ne]; omega
  have e2 : ((d : Int) % 12 == 2) = false := by rw [beq_eq_false_iff_ne]; omega
  have e3 : ((d : Int) % 12 == 3) = false := by rw [beq_eq_false_iff_ne]; omega
  have e4 : ((d : Int) % 12 == 4) = true := by rw [beq_iff_eq]; omega
  have Hr := Lib.hid hr; clear hr
  go_enter Tryd.func16, Tryd.ntmps16
  go_wp2
  go_quiet (fail)
  go_wp2
  try go_ret
  exact hR.out _ _ ⟨rfl, (((Below.refl _ _).alloc (Nat.le_refl _) _).trans ⟨rfl, rfl, rfl, Nat.le_refl _, fun _ _ => rfl⟩)⟩

set_option maxHeartbeats 1000000 in
set_option maxRecDepth 100000 in
theorem act_6 (d a b k : Nat) (t : List UInt8) (hd : d < 256) (ha : a < 65536) (hb : b < 65536) (hr : d % 12 = 6) (w : World) :
    Calls Tryd.prog 16 #[actVal d a b k t] w fun e w' => e = .returned (actF d a b k t).val ∧ Below w.heap.size w w' := by
  refine post_hid ?_; intro R hR
  have hF : actF d a b k t = St.clean true a := by unfold actF; simp [hr]
  rw [hF] at hR
  clear hF
  unfold actVal
  have e0 : ((d : Int) % 12 == 0) = false := by rw [beq_eq_false_iff_ne]; omega
  have e1 : ((d : Int) % 12 == 1) = false := by rw [beq_eq_false_iff_ne]; omega
  have e2 : ((d : Int) % 12 == 2) = false := by rw [beq_eq_false_iff_ne]; omega
  have e3 : ((d : Int) % 12 == 3) = false := by rw [beq_eq_false_iff_ne]; omega
  have e4 : ((d : Int) % 12 == 4) = false := by rw [beq_eq_false_iff_ne]; omega
  have e5 : ((d : Int) % 12 == 5) = false := by rw [beq_eq_false_iff_ne]; omega
  have e6 : ((d : Int) % 12 == 6) = true := by rw [beq_iff_eq]; omega
  have Hr := Lib.hid hr; clear hr
  go_enter Tryd.func16, Tryd.ntmps16
  go_wp2
  go_quiet (fail)
  go_wp2
  try go_ret
  exact hR.out _ _ ⟨rfl, (((Below.refl _ _).alloc (Nat.le_refl _) _).trans ⟨rfl, rfl, rfl, Nat.le_refl _, fun _ _ => rfl⟩)⟩

set_option maxHeartbeats 1000000 in
set_option maxRecDepth 100000 in
theorem act_7 (d a b k : Nat) (t : List UInt8) (hd : d < 256) (ha : a < 65536) (hb : b < 65536) (hr : d % 12 = 7) (w : World) :
    Calls Tryd.prog 16 #[actVal d a b k t] w fun e w' => e = .returned (actF d a b k t).val ∧ Below w.heap.size w w' := by
  refine post_hid ?_; intro R hR
  have hF : actF d a b k t = St.clean false a := by unfold actF; simp [hr]
  rw [hF] at hR
  clear hF
  unfold actVal
  have e0 : ((d : Int) % 12 == 0) = false := by rw [beq_eq_false_iff_ne]; omega
  have e1 : ((d : Int) % 12 == 1) = false := by rw [beq_eq_false_iff_ne]; omega
  have e2 : ((d : Int) % 12 == 2) = false := by rw [beq_eq_false_iff_ne]; omega
  have e3 : ((d : Int) % 12 == 3) = false := by rw [beq_eq_false_iff_ne]; omega
  have e4 : ((d : Int) % 12 == 4) = false := by rw [beq_eq_false_iff_ne]; omega
  have e5 : ((d : Int) % 12 == 5) = false := by rw [beq_eq_false_iff_ne]; omega
  have e6 : ((d : Int) % 12 == 6) = false := by rw [beq_eq_false_iff_ne]; omega
  have e7 : ((d : Int) % 12 == 7) = true := by rw [beq_iff_eq]; omega
  have Hr := Lib.hid hr; clear hr
  go_enter Tryd.func16, Tryd.ntmps16
  go_wp2
  go_quiet (fail)
  go_wp2
  try go_ret
  exact hR.out _ _ ⟨rfl, (((Below.refl _ _).alloc (Nat.le_refl _) _).trans ⟨rfl, rfl, rfl, Nat.le_refl _, fun _ _ => rfl⟩)⟩

set_option maxHeartbeats 1000000 in
set_option maxRecDepth 100000 in
theorem act_8 (d a b k : Nat) (t : List UInt8) (hd : d < 256) (ha : a < 65536) (hb : b < 65536) (hr : d % 12 = 8) (w : World) :
    Calls Tryd.prog 16 #[actVal d a b k t] w fun e w' => e = .returned (actF d a b k t).val ∧ Below w.heap.size w w' := by
  refine post_hid ?_; intro R hR
  have hF : actF d a b k t = St.member wFail a := by unfold actF; simp [hr]
  rw [hF] at hR
  clear hF
  unfold actVal
  have e0 : ((d : Int) % 12 == 0) = false := by rw [beq_eq_false_iff_ne]; omega
  have e1 : ((d : Int) % 12 == 1) = false := by rw [beq_eq_false_iff_ne]; omega
  have e2 : ((d : Int) % 12 == 2) = false := by rw [beq_eq_false_iff_ne]; omega
  have e3 : ((d : Int) % 12 == 3) = false := by rw [beq_eq_false_iff_ne]; omega
  have e4 : ((d : Int) % 12 == 4) = false := by rw [beq_eq_false_iff_ne]; omega
  have e5 : ((d : Int) % 12 == 5) = false := by rw [beq_eq_false_iff_ne]; omega
  have e6 : ((d : Int) % 12 == 6) = false := by rw [beq_eq_false_iff_ne]; omega
  have e7 : ((d : Int) % 12 == 7) = false := by rw [beq_eq_false_iff_ne]; omega
  have e8 : ((d : Int) % 12 == 8) = true := by rw [beq_iff_eq]; omega
  have Hr := Lib.hid hr; clear hr
  go_enter Tryd.func16, Tryd.ntmps16
  go_wp2
  go_quiet (fail)
  go_wp2
  try go_ret
  exact hR.out _ _ ⟨rfl, (((Below.refl _ _).alloc (Nat.le_refl _) _).trans ⟨rfl, rfl, rfl, Nat.le_refl _, fun _ _ => rfl⟩)⟩

set_option maxHeartbeats 1000000 in
set_option maxRecDepth 100000 in
theorem act_9 (d a b k : Nat) (t : List UInt8) (hd : d < 256) (ha : a < 65536) (hb : b < 65536) (hr : d % 12 = 9) (w : World) :
    Calls Tryd.prog 16 #[actVal d a b k t] w fun e w' => e = .returned (actF d a b k t).val ∧ Below w.heap.size w w' := by
  refine post_hid ?_; intro R hR
  have hF : actF d a b k t = St.member wReplace a := by unfold actF; simp [hr]
  rw [hF] at hR
  clear hF
  unfold actVal
  have e0 : ((d : Int) % 12 == 0) = false := by rw [beq_eq_false_iff_ne]; omega
  have e1 : ((d : Int) % 12 == 1) = false := by rw [beq_eq_false_iff_ne]; omega
  have e2 : ((d : Int) % 12 == 2) = false := by rw [beq_eq_false_iff_ne]; omega
  have e3 : ((d : Int) % 12 == 3) = false := by rw [beq_eq_false_iff_ne]; omega
  have e4 : ((d : Int) % 12 == 4) = false := by rw [beq_eq_false_iff_ne]; omega
  have e5 : ((d : Int) % 12 == 5) = false := by rw [beq_eq_false_iff_ne]; omega
  have e6 : ((d : Int) % 12 == 6) = false := by rw [beq_eq_false_iff_ne]; omega
  have e7 : ((d : Int) % 12 == 7) = false := by rw [beq_eq_false_iff_ne]; omega
  have e8 : ((d : Int) % 12 == 8) = false := by rw [beq_eq_false_iff_ne]; omega
  have e9 : ((d : Int) % 12 == 9) = true := by rw [beq_iff_eq]; omega
  have Hr := Lib.hid hr; clear hr
  go_enter Tryd.func16, Tryd.ntmps16
  go_wp2
  go_quiet (fail)
  go_wp2
  try go_ret
  exact hR.out _ _ ⟨rfl, (((Below.refl _ _).alloc (Nat.le_refl _) _).trans ⟨rfl, rfl, rfl, Nat.le_refl _, fun _ _ => rfl⟩)⟩

set_option maxHeartbeats 1000000 in
set_option maxRecDepth 100000 in
theorem act_10 (d a b k : Nat) (t : List UInt8) (hd : d < 256) (ha : a < 65536) (hb : b < 65536) (hr : d % 12 = 10) (w : World) :
    Calls Tryd.prog 16 #[actVal d a b k t] w fun e w' => e = .returned (actF d a b k t).val ∧ Below w.heap.size w w' := by
  refine post_hid ?_; intro R hR
  have hF : actF d a b k t = St.failAt a b := by unfold actF; simp [hr]
  rw [hF] at hR
  clear hF
  unfold actVal
  have e0 : ((d : Int) % 12 == 0) = false := by rw [beq_eq_false_iff_ne]; omega
  have e1 : ((d : Int) % 12 == 1) = false := by rw [beq_eq_false_iff_ne]; omega
  have e2 : ((d : Int) % 12 == 2) = false := by rw [beq_eq_false_iff_ne]; omega
  have e3 : ((d : Int) % 12 == 3) = false := by rw [beq_eq_false_iff_ne]; omega
  have e4 : ((d : Int) % 12 == 4) = false := by rw [beq_eq_false_iff_ne]; omega
  have e5 : ((d : Int) % 12 == 5) = false := by rw [beq_eq_false_iff_ne]; omega
  have e6 : ((d : Int) % 12 == 6) = false := by rw [beq_eq_false_iff_ne]; omega
  have e7 : ((d : Int) % 12 == 7) = false := by rw [beq_eq_false_iff_ne]; omega
  have e8 : ((d : Int) % 12 == 8) = false := by rw [beq_eq_false_iff_ne]; omega
  have e9 : ((d : Int) % 12 == 9) = false := by rw [beq_eq_false_iff_ne]; omega
  have e10 : ((d : Int) % 12 == 10) = true := by rw [beq_iff_eq]; omega
  have Hr := Lib.hid hr; clear hr
  go_enter Tryd.func16, Tryd.ntmps16
  go_wp2
  go_quiet (fail)
  go_wp2
  try go_ret
  exact hR.out _ _ ⟨rfl, (((Below.refl _ _).alloc (Nat.le_refl _) _).trans ⟨rfl, rfl, rfl, Nat.le_refl _, fun _ _ => rfl⟩)⟩

set_option maxHeartbeats 1000000 in
set_option maxRecDepth 100000 in
theorem act_11 (d a b k : Nat) (t : List UInt8) (hd : d < 256) (ha : a < 65536) (hb : b < 65536) (hr : d % 12 = 11) (w : World) :
    Calls Tryd.prog 16 #[actVal d a b k t] w fun e w' => e = .returned (actF d a b k t).val ∧ Below w.heap.size w w' := by
  refine post_hid ?_; intro R hR
  have hF : actF d a b k t = St.crash a k := by unfold actF; simp [hr]
  rw [hF] at hR
  clear hF
  unfold actVal
  have e0 : ((d : Int) % 12 == 0) = false := by rw [beq_eq_false_iff_ne]; omega
  have e1 : ((d : Int) % 12 == 1) = false := by rw [beq_eq_false_iff_ne]; omega
  have e2 : ((d : Int) % 12 == 2) = false := by rw [beq_eq_false_iff_ne]; omega
  have e3 : ((d : Int) % 12 == 3) = false := by rw [beq_eq_false_iff_ne]; omega
  have e4 : ((d : Int) % 12 == 4) = false := by rw [beq_eq_false_iff_ne]; omega
  have e5 : ((d : Int) % 12 == 5) = false := by rw [beq_eq_false_iff_ne]; omega
  have e6 : ((d : Int) % 12 == 6) = false := by rw [beq_eq_false_iff_ne]; omega
  have e7 : ((d : Int) % 12 == 7) = false := by rw [beq_eq_false_iff_ne]; omega
  have e8 : ((d : Int) % 12 == 8) = false := by rw [beq_eq_false_iff_ne]; omega
  have e9 : ((d : Int) % 12 == 9) = false := by rw [beq_eq_false_iff_ne]; omega
  have e10 : ((d : Int) % 12 == 10) = false := by rw [beq_eq_false_iff_ne]; omega
  have Hr := Lib.hid hr; clear hr
  go_enter Tryd.func16, Tryd.ntmps16
  go_wp2
  go_quiet (fail)
  go_wp2
  try go_ret
  exact hR.out _ _ ⟨rfl, (((Below.refl _ _).alloc (Nat.le_refl _) _).trans ⟨rfl, rfl, rfl, Nat.le_refl _, fun _ _ => rfl⟩)⟩

set_option maxHeartbeats 1000000 in
set_option maxRecDepth 100000 in
theorem act_5_0 (d a b k : Nat) (t : List UInt8) (hd : d < 256) (ha : a < 65536) (hb : b < 65536) (hr : d % 12 = 5) (hm : b % 4 = 0) (w : World) :
    Calls Tryd.prog 16 #[actVal d a b k t] w fun e w' => e = .returned (actF d a b k t).val ∧ Below w.heap.size w w' := by
  refine post_hid ?_; intro R hR
  have hF : actF d a b k t = St.plain wFlush := by unfold actF; simp [hr, hm, names]
  rw [hF] at hR
  clear hF
  unfold actVal
  have e0 : ((d : Int) % 12 == 0) = false := by rw [beq_eq_false_iff_ne]; omega
  have e1 : ((d : Int) % 12 == 1) = false := by rw [beq_eq_false_iff_ne]; omega
  have e2 : ((d : Int) % 12 == 2) = false := by rw [beq_eq_false_iff_ne]; omega
  have e3 : ((d : Int) % 12 == 3) = false := by rw [beq_eq_false_iff_ne]; omega
  have e4 : ((d : Int) % 12 == 4) = false := by rw [beq_eq_false_iff_ne]; omega
  have e5 : ((d : Int) % 12 == 5) = true := by rw [beq_iff_eq]; omega
  have Hr := Lib.hid hr; clear hr
  have hm' : (b : Int) % 4 = 0 := by omega
  clear hm
  go_enter Tryd.func16, Tryd.ntmps16
  go_wp2
  go_quiet (fail)
  go_wp2
  try go_ret
  refine hR.out _ _ ⟨rfl, ?_⟩
  exact (((Below.refl _ _).alloc (Nat.le_refl _) _).trans (Below.trans (b := w.alloc _) ⟨rfl, rfl, rfl, Nat.le_refl _, fun _ _ => rfl⟩ ⟨rfl, rfl, rfl, by simp, fun k hk => Below.heap_alloc _ _ _ (by simpa using Nat.lt_succ_of_lt hk)⟩))

set_option maxHeartbeats 1000000 in
set_option maxRecDepth 100000 in
theorem act_5_1 (d a b k : Nat) (t : List UInt8) (hd : d < 256) (ha : a < 65536) (hb : b < 65536) (hr : d % 12 = 5) (hm : b % 4 = 1) (w : World) :
    Calls Tryd.prog 16 #[actVal d a b k t] w fun e w' => e = .returned (actF d a b k t).val ∧ Below w.heap.size w w' := by
  refine post_hid ?_; intro R hR
  have hF : actF d a b k t = St.plain wCkpt := by unfold actF; simp [hr, hm, names]
  rw [hF] at hR
  clear hF
  unfold actVal
  have e0 : ((d : Int) % 12 == 0) = false := by rw [beq_eq_false_iff_ne]; omega
  have e1 : ((d : Int) % 12 == 1) = false := by rw [beq_eq_false_iff_ne]; omega
  have e2 : ((d : Int) % 12 == 2) = false := by rw [beq_eq_false_iff_ne]; omega
  have e3 : ((d : Int) % 12 == 3) = false := by rw [beq_eq_false_iff_ne]; omega
  have e4 : ((d : Int) % 12 == 4) = false := by rw [beq_eq_false_iff_ne]; omega
  have e5 : ((d : Int) % 12 == 5) = true := by rw [beq_iff_eq]; omega
  have Hr := Lib.hid hr; clear hr
  have hm' : (b : Int) % 4 = 1 := by omega
  clear hm
  go_enter Tryd.func16, Tryd.ntmps16
  go_wp2
  go_quiet (fail)
  go_wp2
  try go_ret
  refine hR.out _ _ ⟨rfl, ?_⟩
  exact (((Below.refl _ _).alloc (Nat.le_refl _) _).trans (Below.trans (b := w.alloc _) ⟨rfl, rfl, rfl, Nat.le_refl _, fun _ _ => rfl⟩ ⟨rfl, rfl, rfl, by simp, fun k hk => Below.heap_alloc _ _ _ (by simpa using Nat.lt_succ_of_lt hk)⟩))

set_option maxHeartbeats 1000000 in
set_option maxRecDepth 100000 in
theorem act_5_2 (d a b k : Nat) (t : List UInt8) (hd : d < 256) (ha : a < 65536) (hb : b < 65536) (hr : d % 12 = 5) (hm : b % 4 = 2) (w : World) :
    Calls Tryd.prog 16 #[actVal d a b k t] w fun e w' => e = .returned (actF d a b k t).val ∧ Below w.heap.size w w' := by
  refine post_hid ?_; intro R hR
  have hF : actF d a b k t = St.plain wRebuild := by unfold actF; simp [hr, hm, names]
  rw [hF] at hR
  clear hF
  unfold actVal
  have e0 : ((d : Int) % 12 == 0) = false := by rw [beq_eq_false_iff_ne]; omega
  have e1 : ((d : Int) % 12 == 1) = false := by rw [beq_eq_false_iff_ne]; omega
  have e2 : ((d : Int) % 12 == 2) = false := by rw [beq_eq_false_iff_ne]; omega
  have e3 : ((d : Int) % 12 == 3) = false := by rw [beq_eq_false_iff_ne]; omega
  have e4 : ((d : Int) % 12 == 4) = false := by rw [beq_eq_false_iff_ne]; omega
  have e5 : ((d : Int) % 12 == 5) = true := by rw [beq_iff_eq]; omega
  have Hr := Lib.hid hr; clear hr
  have hm' : (b : Int) % 4 = 2 := by omega
  clear hm
  go_enter Tryd.func16, Tryd.ntmps16
  go_wp2
  go_quiet (fail)
  go_wp2
  try go_ret
  refine hR.out _ _ ⟨rfl, ?_⟩
  exact (((Below.refl _ _).alloc (Nat.le_refl _) _).trans (Below.trans (b := w.alloc _) ⟨rfl, rfl, rfl, Nat.le_refl _, fun _ _ => rfl⟩ ⟨rfl, rfl, rfl, by simp, fun k hk => Below.heap_alloc _ _ _ (by simpa using Nat.lt_succ_of_lt hk)⟩))

set_option maxHeartbeats 1000000 in
set_option maxRecDepth 100000 in
theorem act_5_3 (d a b k : Nat) (t : List UInt8) (hd : d < 256) (ha : a < 65536) (hb : b < 65536) (hr : d % 12 = 5) (hm : b % 4 = 3) (w : World) :
    Calls Tryd.prog 16 #[actVal d a b k t] w fun e w' => e = .returned (actF d a b k t).val ∧ Below w.heap.size w w' := by
  refine post_hid ?_; intro R hR
  have hF : actF d a b k t = St.plain wCheck := by unfold actF; simp [hr, hm, names]
  rw [hF] at hR
  clear hF
  unfold actVal
  have e0 : ((d : Int) % 12 == 0) = false := by rw [beq_eq_false_iff_ne]; omega
  have e1 : ((d : Int) % 12 == 1) = false := by rw [beq_eq_false_iff_ne]; omega
  have e2 : ((d : Int) % 12 == 2) = false := by rw [beq_eq_false_iff_ne]; omega
  have e3 : ((d : Int) % 12 == 3) = false := by rw [beq_eq_false_iff_ne]; omega
  have e4 : ((d : Int) % 12 == 4) = false := by rw [beq_eq_false_iff_ne]; omega
  have e5 : ((d : Int) % 12 == 5) = true := by rw [beq_iff_eq]; omega
  have Hr := Lib.hid hr; clear hr
  have hm' : (b : Int) % 4 = 3 := by omega
  clear hm
  go_enter Tryd.func16, Tryd.ntmps16
  go_wp2
  go_quiet (fail)
  go_wp2
  try go_ret
  refine hR.out _ _ ⟨rfl, ?_⟩
  exact (((Below.refl _ _).alloc (Nat.le_refl _) _).trans (Below.trans (b := w.alloc _) ⟨rfl, rfl, rfl, Nat.le_refl _, fun _ _ => rfl⟩ ⟨rfl, rfl, rfl, by simp, fun k hk => Below.heap_alloc _ _ _ (by simpa using Nat.lt_succ_of_lt hk)⟩))

theorem act_any (d a b k : Nat) (t : List UInt8) (hd : d < 256) (ha : a < 65536) (hb : b < 65536) (w : World) :
    Calls Tryd.prog 16 #[actVal d a b k t] w fun e w' => e = .returned (actF d a b k t).val ∧ Below w.heap.size w w' := by
  have h : d % 12 < 12 := Nat.mod_lt _ (by decide)
  by_cases h0 : d % 12 = 0
  · exact act_0 d a b k t hd ha hb h0 w
  by_cases h1 : d % 12 = 1
  · exact act_1 d a b k t hd ha hb h1 w
  by_cases h2 : d % 12 = 2
  · exact act_2 d a b k t hd ha hb h2 w
  by_cases h3 : d % 12 = 3
  · exact act_3 d a b k t hd ha hb h3 w
  by_cases h4 : d % 12 = 4
  · exact act_4 d a b k t hd ha hb h4 w
  by_cases h6 : d % 12 = 6
  · exact act_6 d a b k t hd ha hb h6 w
  by_cases h7 : d % 12 = 7
  · exact act_7 d a b k t hd ha hb h7 w
  by_cases h8 : d % 12 = 8
  · exact act_8 d a b k t hd ha hb h8 w
  by_cases h9 : d % 12 = 9
  · exact act_9 d a b k t hd ha hb h9 w
  by_cases h10 : d % 12 = 10
  · exact act_10 d a b k t hd ha hb h10 w
  by_cases h11 : d % 12 = 11
  · exact act_11 d a b k t hd ha hb h11 w
  have h5 : d % 12 = 5 := by omega
  have hm : b % 4 < 4 := Nat.mod_lt _ (by decide)
  by_cases m0 : b % 4 = 0
  · exact act_5_0 d a b k t hd ha hb h5 m0 w
  by_cases m1 : b % 4 = 1
  · exact act_5_1 d a b k t hd ha hb h5 m1 w
  by_cases m2 : b % 4 = 2
  · exact act_5_2 d a b k t hd ha hb h5 m2 w
  by_cases m3 : b % 4 = 3
  · exact act_5_3 d a b k t hd ha hb h5 m3 w
  omega
end Go.Proofs.YtpjocnembjocgaaDoor
