/- About, Lba, thrown: what they do at a step. -/
import Derived.Test.YtpjocnembjocgaaDoorAct
import Derived.Defers
import Derived.Recover
namespace Go.Proofs.YtpjocnembjocgaaDoor
open Go.RowKit Go.Mi

/-- The block that a step is about. -/
def St.lba : St → Option Nat
  | .write n _ | .read n | .trim n => some n
  | _ => Option.none

set_option maxRecDepth 100000 in
theorem about_any (s : St) (hs : s ≠ .none) (w : World) : Calls Tryd.prog 17 #[s.val] w fun e w' => e = .returned (.bool s.lba.isSome) ∧ w = w' := by
  cases s
  case none => exact absurd rfl hs
  all_goals
    unfold St.val
    go_enter Tryd.func17, Tryd.ntmps17
    go_wp2
    go_ret
    exact ⟨rfl, rfl⟩

set_option maxRecDepth 100000 in
theorem lba_any (s : St) (n : Nat) (hs : s.lba = some n) (w : World) : Calls Tryd.prog 18 #[s.val] w fun e w' => e = .returned (.int .i64 n) ∧ Below w.heap.size w w' := by
  refine post_hid ?_; intro R hR
  cases s
  case write m t =>
    have : m = n := by simpa [St.lba] using hs
    subst this; clear hs
    unfold St.val
    go_enter Tryd.func18, Tryd.ntmps18
    go_wp2
    try go_ret
    exact hR.out _ _ ⟨rfl, (Below.refl _ _).alloc (Nat.le_refl _) _⟩
  case read m =>
    have : m = n := by simpa [St.lba] using hs
    subst this; clear hs
    unfold St.val
    go_enter Tryd.func18, Tryd.ntmps18
    go_wp2
    try go_ret
    exact hR.out _ _ ⟨rfl, (Below.refl _ _).alloc (Nat.le_refl _) _⟩
  case trim m =>
    have : m = n := by simpa [St.lba] using hs
    subst this; clear hs
    unfold St.val
    go_enter Tryd.func18, Tryd.ntmps18
    go_wp2
    try go_ret
    exact hR.out _ _ ⟨rfl, (Below.refl _ _).alloc (Nat.le_refl _) _⟩
  all_goals simp [St.lba] at hs

theorem rtTA : Tryd.prog.rt.typeAssertionError = 15 := by kernel_rfl
theorem u15 : Tryd.prog.underlying 15 = some (.pointer 139) := by kernel_rfl
theorem lacks_of {t : TypeId} (h : (Tryd.prog.info? t).map (fun i => (lacking #[("Block", 87), ("Word", 66)] i.methods).isEmpty) = some false) (v : Value) (w : World) :
    ∃ r o, (Instr.typeAssert (.iface t v) 35 85 false).run Tryd.prog w = .halt (.panic (.iface 15 (.pointer (some r)))) (w.alloc o) := by
  obtain ⟨i, hi, hl⟩ := Option.map_eq_some_iff.1 h
  obtain ⟨m, hm⟩ := missingMethod_some (want := #[("Block", 87), ("Word", 66)]) (got := i.methods) (fun e => by rw [e] at hl; cases hl)
  refine ⟨⟨w.heap.size, 0, none⟩, .cells #[.pointer none, (typeHandle Tryd.prog t), (typeHandle Tryd.prog 85), strVal m] 139, ?_⟩
  simp [Instr.typeAssert, run_underlying Tryd.underlying85, typeInfo, hi, hm, runtimePanic, program, goPanic, newVar, newRow, Sem.run, elemOf, run_underlying u15, Value.cells]

theorem lba_no (t : TypeId) (h : (Tryd.prog.info? t).map (fun i => (lacking #[("Block", 87), ("Word", 66)] i.methods).isEmpty) = some false) (v : Value) (w : World) :
    Calls Tryd.prog 18 #[.iface t v] w fun e w' => ∃ r, e = .panicked [{ v := .iface 15 (.pointer (some r)), recovered := false }] ∧ Below w.heap.size w w' := by
  refine post_hid ?_; intro R hR
  obtain ⟨r, o, hro⟩ := lacks_of h v w
  clear h
  go_enter Tryd.func18, Tryd.ntmps18
  go_wp2
  exact ⟨rfl, hR.out _ _ ⟨r, rfl, (Below.refl _ _).alloc (Nat.le_refl _) _⟩⟩

theorem lits_val (s : St) (hs : s.lba = Option.none) (hn : s ≠ .none) : ∃ t v, s.val = .iface t v ∧ (Tryd.prog.info? t).map (fun i => (lacking #[("Block", 87), ("Word", 66)] i.methods).isEmpty) = some false := by
  cases s
  case none => exact absurd rfl hn
  case plain => exact ⟨74, _, rfl, by kernel_rfl⟩
  case clean => exact ⟨76, _, rfl, by kernel_rfl⟩
  case member => exact ⟨78, _, rfl, by kernel_rfl⟩
  case failAt => exact ⟨80, _, rfl, by kernel_rfl⟩
  case crash => exact ⟨82, _, rfl, by kernel_rfl⟩
  all_goals simp [St.lba] at hs

theorem clos_no (s : St) (hs : s.lba = Option.none) (hn : s ≠ .none) (b : Nat) (w : World) (hb : w.cell? ⟨b, 0, none⟩ = some s.val) :
    Calls Tryd.prog 20 #[.pointer (some ⟨b, 0, none⟩)] w fun e w' => ∃ r, e = .panicked [{ v := .iface 15 (.pointer (some r)), recovered := false }] ∧ Below w.heap.size w w' := by
  refine post_hid ?_; intro R hR
  obtain ⟨t, v, hv, h⟩ := lits_val s hs hn
  rw [hv] at hb
  have H := Lib.hid h
  clear h hv hs hn
  go_enter Tryd.func20, Tryd.ntmps20
  go_wp2_with fail
  refine (lba_no t H.out v w).mono ?_
  rintro e w1 ⟨r, rfl, hb1⟩
  exact ⟨rfl, hR.out _ _ ⟨r, rfl, hb1⟩⟩

theorem catch_p (p : Addr) (x : Bool) (u : TypeId) (pv : Value) (older : List PanicEntry) (w : World) (hc : w.cell? p = some (.bool x)) (hz : w.frozen? p = false) :
    CallsD Tryd.prog 36 #[.pointer (some p)] (.panicking ({ v := .iface u pv, recovered := false } :: older)) w fun e u' w' =>
      e = .returned (.tuple #[]) ∧ u' = .panicking ({ v := .iface u pv, recovered := true } :: older) ∧ w' = w.setCell p (.bool true) := by
  refine callsD_of_wpS Tryd.func36 rfl fun c₀ cs hu => ?_
  apply wpS_region
  simp [wpOpsS, go_sem, recoverD, hu, Tryd.ntmps36, hc, hz, bodyPostS, results, Tryd.results36]

set_option maxRecDepth 100000 in
/-- thrown, of a closure that asks Lba of a step that is about no block: true. -/
theorem thrown_no (s : St) (hs : s.lba = Option.none) (hn : s ≠ .none) (b : Nat) (w : World) (hb : w.cell? ⟨b, 0, none⟩ = some s.val) (_hE : Env w) :
    Calls Tryd.prog 19 #[.func (.func 20) #[] #[.pointer (some ⟨b, 0, none⟩)]] w fun e w' => e = .returned (.bool true) ∧ Below w.heap.size w w' := by
  refine post_hid ?_; intro R hR
  have hmf : ∀ (fn : Fn) (first cap : Array Value) (w : World), (Instr.makeFunc fn first cap).run Tryd.prog w = .ok (.func fn first cap) w := fun _ _ _ _ => rfl
  have hlt := World.block_lt_of_cell? _ _ hb
  have hc := clos_no s hs hn b (w.alloc (.cells #[.bool false] 4)) (by rw [World.cell?_alloc_lt _ _ _ hlt]; exact hb)
  have HC := Lib.hid hc
  clear hc hb hs hn
  go_enter_defers Tryd.func19, Tryd.ntmps19
  go_wp2_with fail
  refine HC.out.mono ?_
  rintro e w1 ⟨r, rfl, hb1⟩
  have hc1 : w1.cell? ⟨w.heap.size, 0, none⟩ = some (.bool false) := by rw [hb1.cell (p := ⟨w.heap.size, 0, none⟩) (by simp)]; simp
  have hz1 : w1.frozen? ⟨w.heap.size, 0, none⟩ = false := by rw [hb1.frozen (p := ⟨w.heap.size, 0, none⟩) (by simp)]; exact World.frozen?_alloc_new _ _ _ _
  refine leaves_cons (f := 36) (args := #[.pointer (some ⟨w.heap.size, 0, none⟩)]) (by simp) (by simp [go_sem]) ?_
  refine (catch_p ⟨w.heap.size, 0, none⟩ false 15 _ [] _ hc1 hz1).mono ?_
  rintro e u' w'' ⟨rfl, rfl, rfl⟩
  have hc2 : (w1.setCell ⟨w.heap.size, 0, none⟩ (.bool true)).cell? ⟨w.heap.size, 0, none⟩ = some (.bool true) := World.cell?_setCell_same _ _ _ hc1
  simp [Leaves, settle, results, Tryd.results19, go_sem, hc2]
  exact hR.out _ _ ⟨rfl, ((((Below.refl _ _).alloc (Nat.le_refl _) _).trans (hb1.mono (by simp))).setCell (Nat.le_refl _) _)⟩
end Go.Proofs.YtpjocnembjocgaaDoor
