/- THE LAW ScriptSpoilt: of any acts' lines with a sign left out or another text put in: Parse answers as the document's Reads: the law returns true, for every input. Condition: the library's listed variables hold what their initialisers lay (tied by the card). -/
import Derived.Test.YtpjocnembjocgaaDoorActs
import Derived.Test.YtpjocnembjocgaaDoorSpoiltWalk
import Derived.Lib.SmallJoins
import Derived.Deep.Fields
namespace Go.Proofs.YtpjocnembjocgaaDoor
open Go.ChangeShapes Go.WideShapes Go.ChangeAt Go.RowKit Go.Mi Go.Joins Go.Deep

set_option maxRecDepth 100000 in
theorem spoilt_contract (H : Type) (enc : TypeId × Value → H) (W : World) (base : Nat) (args : Array Value) (ds gs : List (DataW H)) (before : List MemPlace)
    (hval : ∀ (j : Nat) t v, Tryd.f5.params[j]? = some t → args[j]? = some v → Value.okWide Tryd.prog W .any base t v)
    (hW : DataW.Whole enc Tryd.prog Tryd.f5.params.toList Rows.scriptSpoiltSpec.vars false W args.toList ds gs before) (hZ : (DataW.weightsEach Tryd.prog (Tryd.f5.params.toList ++ (OpenSpec.ofChange Rows.scriptSpoiltSpec).bare.plain.varTypes Tryd.prog) (ds ++ gs)).all (· ≤ reachBytes) = true) (hL : laidMetH Tryd.prog Rows.scriptSpoiltRow.laid W) :
    Calls Tryd.prog 5 args W fun e W' => ∃ v, e = .returned v ∧ Rows.scriptSpoiltSpec.post enc Tryd.prog Tryd.f5 false true false false W args v W' := by
  have hl : laidMet Tryd.prog theLaid W := hL
  have hE := env_of_laid hl (size_of_laid hl)
  have hW' := hW
  obtain ⟨p, q, hA0, hV, rfl, hfz, hnd⟩ := hW
  have hA : DataW.TrodAll enc Tryd.prog W 0 (fun _ => true) true Tryd.f5.params.toList args.toList ds p := hA0
  rw [Tryd.params5] at hA hval
  obtain ⟨v0, vs0, d0, ds0, p0, q0, hargs, rfl, rfl, h0, r0⟩ := trodAll_cons hA
  obtain ⟨v1, vs1, d1, ds1, p1, q1, rfl, rfl, rfl, h1, r1⟩ := trodAll_cons r0
  obtain ⟨v2, vs2, d2, ds2, p2, q2, rfl, rfl, rfl, h2, r2⟩ := trodAll_cons r1
  obtain ⟨v3, vs3, d3, ds3, p3, q3, rfl, rfl, rfl, h3, r3⟩ := trodAll_cons r2
  obtain ⟨rfl, rfl, rfl⟩ := trodAll_nil r3
  obtain rfl : args = #[v0, v1, v2, v3] := by cases args; simp_all
  obtain ⟨a, rfl, _, _, wa⟩ := open_int Tryd.underlying32 (hval 1 32 v1 rfl rfl) h1
  obtain ⟨c, rfl, _, _, wc⟩ := open_int Tryd.underlying5 (hval 2 5 v2 rfl rfl) h2
  obtain ⟨m, rfl⟩ : ∃ s, v3 = .string s := okWide_string Tryd.underlying9 (hval 3 9 v3 rfl rfl)
  have ba := bd_u16 wa; have bc := bd_u8 wc
  obtain ⟨a, rfl⟩ := Int.eq_ofNat_of_zero_le ba.1
  obtain ⟨c, rfl⟩ := Int.eq_ofNat_of_zero_le bc.1
  obtain ⟨l, hacts, hok, hsl⟩ := acts_open (hval 0 31 v0 rfl rfl) h0 (fun n hn => of_decide_eq_true (List.all_eq_true.1 hZ n (DataW.weights_mem_each (j := 0) (t := 31) (d := d0) (by rw [Tryd.params5]; rfl) rfl n hn)))
  refine (spoilt_walk l hok a c (by have := ba.2; omega) (by have := bc.2; omega) m W hE v0 l.length hsl rfl hacts).mono ?_
  rintro e W' ⟨rfl, hb'⟩
  exact ⟨_, rfl, law_post enc hW' rfl (by kernel_rfl) ⟨rfl, rfl, rfl⟩ (by rw [Tryd.params5]; intro t ht; simp at ht; rcases ht with rfl | rfl | rfl | rfl <;> exact ⟨by kernel_rfl, of_decide_eq_true (by kernel_rfl)⟩) hb'⟩

theorem spoilt_reads (os : Os) {H : Type} (enc : TypeId × Value → H) : ∃ places, DataW.whole enc Tryd.prog ((laidWorld os).forCall (fun _ _ => 0) ⟨#[], #[.slice none 0 0, .int .u16 0, .int .u8 0, .string ⟨#[]⟩], []⟩).memory Tryd.f5.params.toList Rows.scriptSpoiltSpec.vars false #[Value.slice none 0 0, .int .u16 0, .int .u8 0, .string ⟨#[]⟩].toList 8 = some ([.nil, .lit (.int .u16 0), .lit (.int .u8 0), .lit (.string [])], [], places) :=
  ⟨[], by kernel_rfl⟩

set_option maxRecDepth 100000 in
theorem spoilt_lifted (os : Os) (started : os.Started) (H : Type) (enc : TypeId × Value → H) (F : Stop.Interp) :
    ReturnsInHanded {} Tryd.checked os 5 .any ((OpenSpec.ofChange Rows.scriptSpoiltSpec).preRow enc Tryd.prog Tryd.f5 Rows.scriptSpoiltRow.domain false Rows.scriptSpoiltRow.laid) (((OpenSpec.ofChange Rows.scriptSpoiltSpec).at F).post enc Tryd.prog Tryd.f5 false true false false) := by
  obtain ⟨places, hx⟩ := spoilt_reads os enc
  refine returnsInHanded_of_row (C := Tryd.checked) (s := OpenSpec.ofChange Rows.scriptSpoiltSpec) own started (by kernel_rfl) Tryd.func5
    (witness_row_at (enc := enc) (C := Tryd.checked) false (laidWorld os) #[.slice none 0 0, .int .u16 0, .int .u8 0, .string ⟨#[]⟩] rfl (by kernel_rfl) (by kernel_rfl) (by kernel_rfl)
      (OpenSpec.preRow_of_cond 8 hx (by kernel_rfl) (fun k hk => by cases hk) (by kernel_rfl) (laid_met os _))) ?_
  intro W base args ds gs before hval hW _ _ hZ hL _ _
  exact spoilt_contract H enc W base args ds gs before hval hW hZ hL

theorem spoilt_said : Rows.ScriptSpoiltSaid :=
  OpenClaim.holds_of_cond 5 Tryd.f5 rfl rfl rfl rfl rfl rfl rfl ⟨rfl, rfl, rfl, rfl, rfl⟩ rfl rfl rfl rfl rfl (by kernel_rfl) Tryd.func5 (by kernel_rfl)
    (of_decide_eq_true (by kernel_rfl)) (by unfold Func.isWrapper; first | (rw [if_pos (by decide +kernel)]; kernel_rfl) | (rw [if_neg (by decide +kernel)]; exact ⟨rfl, rfl⟩))
    (fun os started H enc _ F => by rw [OpenClaim.pre_eq_preRow]; exact spoilt_lifted os started H enc F)

theorem spoilt_plain (f : FuncId) (fn : Func) (hf : Tryd.pinned.checked.prog.funcNamed "drystone/drystonelaw21.ScriptSpoilt" = some f) (hfn : Tryd.pinned.checked.prog.funcs[f]? = some fn) :
    true = Tryd.pinned.checked.prog.looks [] ∧ ∀ (j : Nat) t, fn.params[j]? = some t → Tryd.pinned.checked.prog.wantsStandIn t = false := by
  obtain rfl : f = 5 := Option.some.inj ((show Tryd.prog.funcNamed "drystone/drystonelaw21.ScriptSpoilt" = some 5 by kernel_rfl).symm.trans hf) |>.symm
  obtain rfl : fn = Tryd.f5 := (Option.some.inj (Tryd.func5.symm.trans hfn)).symm
  refine ⟨by kernel_rfl, fun j t ht => ?_⟩
  rw [Tryd.params5] at ht
  have h : t = 31 ∨ t = 32 ∨ t = 5 ∨ t = 9 := by simpa using Array.mem_of_getElem? ht
  rcases h with rfl | rfl | rfl | rfl
  · exact (show Tryd.prog.wantsStandIn 31 = false by kernel_rfl)
  · exact (show Tryd.prog.wantsStandIn 32 = false by kernel_rfl)
  · exact (show Tryd.prog.wantsStandIn 5 = false by kernel_rfl)
  · exact (show Tryd.prog.wantsStandIn 9 = false by kernel_rfl)

theorem spoilt_card : Rows.ScriptSpoiltCardSaid :=
  Claim7.holds_tied_plain_at .later [] _ _ _ _ spoilt_said (fun _ h => by cases h) (by kernel_rfl) (fun _ h => by cases h) scriptSpoilt_row_tie rfl ⟨rfl, rfl⟩ (by kernel_rfl) rfl spoilt_plain (by kernel_rfl)
#print axioms spoilt_card
end Go.Proofs.YtpjocnembjocgaaDoor
