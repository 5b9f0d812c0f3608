/- THE LAW ScriptLba: of any act's step: Lba gives the block of a step that is about one; of another one About says no, and Lba throws: the law returns true, for every input. Condition: the library's listed variables hold what their initialisers lay (tied by the card). -/
import Derived.Test.YtpjocnembjocgaaDoorFrame
import Derived.Test.YtpjocnembjocgaaDoorLbaWalk
import Derived.Lib.SmallJoins
import Derived.Deep.Fields
namespace Go.Proofs.YtpjocnembjocgaaDoor
open Go.ChangeShapes Go.WideShapes Go.ChangeAt Go.RowKit Go.Mi Go.Joins Go.Deep

set_option maxRecDepth 100000 in
theorem lba_contract (H : Type) (enc : TypeId × Value → H) (W : World) (base : Nat) (args : Array Value) (ds gs : List (DataW H)) (before : List MemPlace)
    (hval : ∀ (j : Nat) t v, Tryd.f6.params[j]? = some t → args[j]? = some v → Value.okWide Tryd.prog W .any base t v)
    (hW : DataW.Whole enc Tryd.prog Tryd.f6.params.toList Rows.scriptLbaSpec.vars false W args.toList ds gs before) (hL : laidMetH Tryd.prog Rows.scriptLbaRow.laid W) :
    Calls Tryd.prog 6 args W fun e W' => ∃ v, e = .returned v ∧ Rows.scriptLbaSpec.post enc Tryd.prog Tryd.f6 false true false false W args v W' := by
  have hl : laidMet Tryd.prog theLaid W := hL
  have hE := env_of_laid hl (size_of_laid hl)
  have hW' := hW
  obtain ⟨p, q, hA0, hV, rfl, hfz, hnd⟩ := hW
  have hA : DataW.TrodAll enc Tryd.prog W 0 (fun _ => true) true Tryd.f6.params.toList args.toList ds p := hA0
  rw [Tryd.params6] at hA hval
  obtain ⟨v0, vs0, d0, ds0, p0, q0, hargs, rfl, rfl, h0, r0⟩ := trodAll_cons hA
  obtain ⟨rfl, rfl, rfl⟩ := trodAll_nil r0
  obtain rfl : args = #[v0] := by cases args; simp_all
  obtain ⟨c0, c1, c2, c3, c4, y0, y1, y2, y3, y4, n, rfl, rfl, rfl, t0, t1, t2, t3, t4⟩ := open_agg5 Tryd.underlying40 (by kernel_rfl) (by kernel_rfl) (hval 0 40 v0 rfl rfl) h0
  obtain ⟨d, e0, rfl, wd⟩ := DataW.trod_int Tryd.underlying5 t0
  obtain ⟨a, e1, rfl, wa⟩ := DataW.trod_int Tryd.underlying32 t1
  obtain ⟨b, e2, rfl, wb⟩ := DataW.trod_int Tryd.underlying32 t2
  obtain ⟨k, e3, rfl, wk⟩ := DataW.trod_int Tryd.underlying38 t3
  obtain ⟨s, e4, rfl, hs⟩ := DataW.trod_string Tryd.underlying9 t4
  simp only [List.cons.injEq, and_true] at e0 e1 e2 e3 e4
  subst e0 e1 e2 e3 e4
  have bd := bd_u8 wd; have ba := bd_u16 wa; have bb := bd_u16 wb; have bk := bd_u64 wk
  obtain ⟨d, rfl⟩ := Int.eq_ofNat_of_zero_le bd.1
  obtain ⟨a, rfl⟩ := Int.eq_ofNat_of_zero_le ba.1
  obtain ⟨b, rfl⟩ := Int.eq_ofNat_of_zero_le bb.1
  obtain ⟨k, rfl⟩ := Int.eq_ofNat_of_zero_le bk.1
  obtain ⟨t, rfl⟩ : ∃ t : List UInt8, s = ⟨t.toArray⟩ := ⟨s.data.toList, by simp⟩
  refine (lba_walk d a b k t (by have := bd.2; omega) (by have := ba.2; omega) (by have := bb.2; omega) W hE).mono ?_
  rintro e W' ⟨rfl, hb'⟩
  exact ⟨_, rfl, law_post enc hW' rfl (by kernel_rfl) ⟨rfl, rfl, rfl⟩ (by rw [Tryd.params6]; intro t ht; simp at ht; subst ht; exact ⟨by kernel_rfl, of_decide_eq_true (by kernel_rfl)⟩) hb'⟩

theorem lba_reads (os : Os) {H : Type} (enc : TypeId × Value → H) : ∃ places, DataW.whole enc Tryd.prog ((laidWorld os).forCall (fun _ _ => 0) ⟨#[], #[.agg #[.int .u8 0, .int .u16 0, .int .u16 0, .int .u64 0, .string ⟨#[]⟩]], []⟩).memory Tryd.f6.params.toList Rows.scriptLbaSpec.vars false #[Value.agg #[.int .u8 0, .int .u16 0, .int .u16 0, .int .u64 0, .string ⟨#[]⟩]].toList 8 = some ([.agg [.lit (.int .u8 0), .lit (.int .u16 0), .lit (.int .u16 0), .lit (.int .u64 0), .lit (.string [])]], [], places) :=
  ⟨[], by kernel_rfl⟩

set_option maxRecDepth 100000 in
theorem lba_lifted (os : Os) (started : os.Started) (H : Type) (enc : TypeId × Value → H) (F : Stop.Interp) :
    ReturnsInHanded {} Tryd.checked os 6 .any ((OpenSpec.ofChange Rows.scriptLbaSpec).preRow enc Tryd.prog Tryd.f6 Rows.scriptLbaRow.domain false Rows.scriptLbaRow.laid) (((OpenSpec.ofChange Rows.scriptLbaSpec).at F).post enc Tryd.prog Tryd.f6 false true false false) := by
  obtain ⟨places, hx⟩ := lba_reads os enc
  refine returnsInHanded_of_row (C := Tryd.checked) (s := OpenSpec.ofChange Rows.scriptLbaSpec) own started (by kernel_rfl) Tryd.func6
    (witness_row_at (enc := enc) (C := Tryd.checked) false (laidWorld os) #[.agg #[.int .u8 0, .int .u16 0, .int .u16 0, .int .u64 0, .string ⟨#[]⟩]] rfl (by kernel_rfl) (by kernel_rfl) (by kernel_rfl)
      (OpenSpec.preRow_of_cond 8 hx (by kernel_rfl) (fun k hk => by cases hk) (by kernel_rfl) (laid_met os _))) ?_
  intro W base args ds gs before hval hW _ _ _ hL _ _
  exact lba_contract H enc W base args ds gs before hval hW hL

theorem lba_said : Rows.ScriptLbaSaid :=
  OpenClaim.holds_of_cond 6 Tryd.f6 rfl rfl rfl rfl rfl rfl rfl ⟨rfl, rfl, rfl, rfl, rfl⟩ rfl rfl rfl rfl rfl (by kernel_rfl) Tryd.func6 (by kernel_rfl)
    (of_decide_eq_true (by kernel_rfl)) (by unfold Func.isWrapper; first | (rw [if_pos (by decide +kernel)]; kernel_rfl) | (rw [if_neg (by decide +kernel)]; exact ⟨rfl, rfl⟩))
    (fun os started H enc _ F => by rw [OpenClaim.pre_eq_preRow]; exact lba_lifted os started H enc F)

theorem lba_plain (f : FuncId) (fn : Func) (hf : Tryd.pinned.checked.prog.funcNamed "drystone/drystonelaw21.ScriptLba" = some f) (hfn : Tryd.pinned.checked.prog.funcs[f]? = some fn) :
    true = Tryd.pinned.checked.prog.looks [] ∧ ∀ (j : Nat) t, fn.params[j]? = some t → Tryd.pinned.checked.prog.wantsStandIn t = false := by
  obtain rfl : f = 6 := Option.some.inj ((show Tryd.prog.funcNamed "drystone/drystonelaw21.ScriptLba" = some 6 by kernel_rfl).symm.trans hf) |>.symm
  obtain rfl : fn = Tryd.f6 := (Option.some.inj (Tryd.func6.symm.trans hfn)).symm
  refine ⟨by kernel_rfl, fun j t ht => ?_⟩
  rw [Tryd.params6] at ht
  obtain rfl : t = 40 := by simpa using Array.mem_of_getElem? ht
  exact (show Tryd.prog.wantsStandIn 40 = false by kernel_rfl)

theorem lba_card : Rows.ScriptLbaCardSaid :=
  Claim7.holds_tied_plain_at .later [] _ _ _ _ lba_said (fun _ h => by cases h) (by kernel_rfl) (fun _ h => by cases h) scriptLba_row_tie rfl ⟨rfl, rfl⟩ (by kernel_rfl) rfl lba_plain (by kernel_rfl)
#print axioms lba_card
end Go.Proofs.YtpjocnembjocgaaDoor
