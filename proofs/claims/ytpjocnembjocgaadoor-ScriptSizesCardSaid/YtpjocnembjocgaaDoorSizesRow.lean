/- THE LAW ScriptSizes: of a script of 65530 to 65541 blank bytes, and of one of 4090 to 4101 lines 'flush': Parse refuses the one above 65536 bytes, the other above 4096 steps, and reads the rest: the law returns true, for every input. Condition: the library's listed variables hold what their initialisers lay (tied by the card). -/
import Derived.Test.YtpjocnembjocgaaDoorFrame
import Derived.Test.YtpjocnembjocgaaDoorSizesWalk
import Derived.Lib.SmallJoins
import Derived.Deep.Fields
namespace Go.Proofs.YtpjocnembjocgaaDoor
open Go.ChangeShapes Go.WideShapes Go.ChangeAt Go.RowKit Go.Mi Go.Joins Go.Deep

set_option maxRecDepth 100000 in
theorem sizes_contract (H : Type) (enc : TypeId × Value → H) (W : World) (base : Nat) (args : Array Value) (ds gs : List (DataW H)) (before : List MemPlace)
    (hval : ∀ (j : Nat) t v, Tryd.f3.params[j]? = some t → args[j]? = some v → Value.okWide Tryd.prog W .any base t v)
    (hW : DataW.Whole enc Tryd.prog Tryd.f3.params.toList Rows.scriptSizesSpec.vars false W args.toList ds gs before) (hL : laidMetH Tryd.prog Rows.scriptSizesRow.laid W) :
    Calls Tryd.prog 3 args W fun e W' => ∃ v, e = .returned v ∧ Rows.scriptSizesSpec.post enc Tryd.prog Tryd.f3 false true false false W args v W' := by
  have hl : laidMet Tryd.prog theLaid W := hL
  have hE := env_of_laid hl (size_of_laid hl)
  have hW' := hW
  obtain ⟨p, q, hA0, hV, rfl, hfz, hnd⟩ := hW
  have hA : DataW.TrodAll enc Tryd.prog W 0 (fun _ => true) true Tryd.f3.params.toList args.toList ds p := hA0
  rw [Tryd.params3] at hA hval
  obtain ⟨v0, vs0, d0, ds0, p0, q0, hargs, rfl, rfl, h0, r0⟩ := trodAll_cons hA
  obtain ⟨v1, vs1, d1, ds1, p1, q1, rfl, rfl, rfl, h1, r1⟩ := trodAll_cons r0
  obtain ⟨rfl, rfl, rfl⟩ := trodAll_nil r1
  obtain rfl : args = #[v0, v1] := by cases args; simp_all
  obtain ⟨d, rfl, _, _, wd⟩ := open_int Tryd.underlying5 (hval 0 5 v0 rfl rfl) h0
  obtain ⟨b, rfl⟩ : ∃ b, v1 = .bool b := okWide_bool Tryd.underlying4 (hval 1 4 v1 rfl rfl)
  have bd := bd_u8 wd
  obtain ⟨d, rfl⟩ := Int.eq_ofNat_of_zero_le bd.1
  have hwalk : Calls Tryd.prog 3 #[.int .u8 d, .bool b] W fun e w' => e = .returned (.bool true) ∧ Below W.heap.size W w' := by
    cases b with
    | true => exact sizes_long d (by have := bd.2; omega) W hE
    | false => exact sizes_many d (by have := bd.2; omega) W hE
  refine hwalk.mono ?_
  rintro e W' ⟨rfl, hb'⟩
  exact ⟨_, rfl, law_post enc hW' rfl (by kernel_rfl) ⟨rfl, rfl, rfl⟩ (by rw [Tryd.params3]; intro t ht; simp at ht; rcases ht with rfl | rfl <;> exact ⟨by kernel_rfl, of_decide_eq_true (by kernel_rfl)⟩) hb'⟩

theorem sizes_reads (os : Os) {H : Type} (enc : TypeId × Value → H) : ∃ places, DataW.whole enc Tryd.prog ((laidWorld os).forCall (fun _ _ => 0) ⟨#[], #[.int .u8 0, .bool true], []⟩).memory Tryd.f3.params.toList Rows.scriptSizesSpec.vars false #[Value.int .u8 0, .bool true].toList 8 = some ([.lit (.int .u8 0), .lit (.bool true)], [], places) :=
  ⟨[], by kernel_rfl⟩

set_option maxRecDepth 100000 in
theorem sizes_lifted (os : Os) (started : os.Started) (H : Type) (enc : TypeId × Value → H) (F : Stop.Interp) :
    ReturnsInHanded {} Tryd.checked os 3 .any ((OpenSpec.ofChange Rows.scriptSizesSpec).preRow enc Tryd.prog Tryd.f3 Rows.scriptSizesRow.domain false Rows.scriptSizesRow.laid) (((OpenSpec.ofChange Rows.scriptSizesSpec).at F).post enc Tryd.prog Tryd.f3 false true false false) := by
  obtain ⟨places, hx⟩ := sizes_reads os enc
  refine returnsInHanded_of_row (C := Tryd.checked) (s := OpenSpec.ofChange Rows.scriptSizesSpec) own started (by kernel_rfl) Tryd.func3
    (witness_row_at (enc := enc) (C := Tryd.checked) false (laidWorld os) #[.int .u8 0, .bool true] rfl (by kernel_rfl) (by kernel_rfl) (by kernel_rfl)
      (OpenSpec.preRow_of_cond 8 hx (by kernel_rfl) (fun k hk => by cases hk) (by kernel_rfl) (laid_met os _))) ?_
  intro W base args ds gs before hval hW _ _ _ hL _ _
  exact sizes_contract H enc W base args ds gs before hval hW hL

theorem sizes_said : Rows.ScriptSizesSaid :=
  OpenClaim.holds_of_cond 3 Tryd.f3 rfl rfl rfl rfl rfl rfl rfl ⟨rfl, rfl, rfl, rfl, rfl⟩ rfl rfl rfl rfl rfl (by kernel_rfl) Tryd.func3 (by kernel_rfl)
    (of_decide_eq_true (by kernel_rfl)) (by unfold Func.isWrapper; first | (rw [if_pos (by decide +kernel)]; kernel_rfl) | (rw [if_neg (by decide +kernel)]; exact ⟨rfl, rfl⟩))
    (fun os started H enc _ F => by rw [OpenClaim.pre_eq_preRow]; exact sizes_lifted os started H enc F)

theorem sizes_plain (f : FuncId) (fn : Func) (hf : Tryd.pinned.checked.prog.funcNamed "drystone/drystonelaw21.ScriptSizes" = some f) (hfn : Tryd.pinned.checked.prog.funcs[f]? = some fn) :
    true = Tryd.pinned.checked.prog.looks [] ∧ ∀ (j : Nat) t, fn.params[j]? = some t → Tryd.pinned.checked.prog.wantsStandIn t = false := by
  obtain rfl : f = 3 := Option.some.inj ((show Tryd.prog.funcNamed "drystone/drystonelaw21.ScriptSizes" = some 3 by kernel_rfl).symm.trans hf) |>.symm
  obtain rfl : fn = Tryd.f3 := (Option.some.inj (Tryd.func3.symm.trans hfn)).symm
  refine ⟨by kernel_rfl, fun j t ht => ?_⟩
  rw [Tryd.params3] at ht
  have h : t = 5 ∨ t = 4 := by simpa using Array.mem_of_getElem? ht
  rcases h with rfl | rfl
  · exact (show Tryd.prog.wantsStandIn 5 = false by kernel_rfl)
  · exact (show Tryd.prog.wantsStandIn 4 = false by kernel_rfl)

theorem sizes_card : Rows.ScriptSizesCardSaid :=
  Claim7.holds_tied_plain_at .later [] _ _ _ _ sizes_said (fun _ h => by cases h) (by kernel_rfl) (fun _ h => by cases h) scriptSizes_row_tie rfl ⟨rfl, rfl⟩ (by kernel_rfl) rfl sizes_plain (by kernel_rfl)
#print axioms sizes_card
end Go.Proofs.YtpjocnembjocgaaDoor
