/- A slice of acts, as a row hands it over: opened to its cells. -/
import Derived.Test.YtpjocnembjocgaaDoorSteps
import Derived.Test.YtpjocnembjocgaaDoorFrame
import Derived.Deep.Slices
import Derived.Deep.Fields
import Derived.ChangeSame
namespace Go.Proofs.YtpjocnembjocgaaDoor
open Go.ChangeShapes Go.WideShapes Go.Deep Go.RowKit Go.Mi

section
variable {H : Type} {enc : TypeId × Value → H} {P : Program} {w : World} {base : Nat} {spare : Nat → Bool} {held : Bool}
theorem open_slice_fields {t e : TypeId} {fs : Array Field} {fuel : Nat} {cs : List Value} {x : DataW H × List MemPlace} (ht : P.underlying t = some (.slice e)) (he : P.underlying e = some (.struct fs))
    (hone : oneCellFields P fs = true) (hC : P.cellsOf e = fs.size) (h : DataW.trod enc P w base spare held fuel t cs = some x) :
    (cs = [.slice none 0 0] ∧ x = (.nil, [])) ∨
    ∃ (a : Addr) (len cap m : Nat) (D : Nat → DataW H) (Pl : Nat → List MemPlace), cs = [.slice (some a) len cap] ∧ base ≤ a.block ∧ len ≤ cap ∧ cap ≤ maxLen ∧ m = (if spare a.block then cap else len) ∧
      x = (.slice ((List.range len).map D) ((List.range (m - len)).map fun j => D (len + j)), MemPlace.row a (m * fs.size) ++ (List.range m).flatMap Pl) ∧
      ∀ i, i < m → ∃ (ys : List (DataW H × List MemPlace)) (n : Nat), D i = .agg (ys.map (·.1)) ∧ Pl i = ys.flatMap (·.2) ∧ ys.length = fs.size ∧
        ∀ (j : Nat) (f : Field), fs[j]? = some f → ∃ (v : Value) (y : DataW H × List MemPlace), w.cell? (a.add (i * fs.size + j)) = some v ∧ ys[j]? = some y ∧ DataW.trod enc P w base spare held n f.type [v] = some y := by
  rcases open_slice ht h with h0 | ⟨a, len, cap, m, n, D, Pl, hcs, hb, hl, hm, hmm, hx, hi⟩
  · exact .inl h0
  · refine .inr ⟨a, len, cap, m, D, Pl, hcs, hb, hl, hm, hmm, by rw [hC] at hx; exact hx, fun i him => ?_⟩
    obtain ⟨cs', hc, ht'⟩ := hi i him
    rw [hC] at hc
    obtain ⟨ys, n', hn', hy, hlen, hyl, hf⟩ := DataW.trod_struct he ht'
    obtain ⟨_, hcl, hat⟩ := World.cells?_some hc
    simp only [Prod.mk.injEq] at hy
    refine ⟨ys, n', hy.1, hy.2, hyl, fun j f hj => ?_⟩
    obtain ⟨ho, hk⟩ := hone_of hone j f hj
    have hjl : j < fs.size := (Array.getElem?_eq_some_iff.1 hj).1
    have hcell := hat j hjl
    have hv : cs'[j]? = some (cs'[j]'(by omega)) := List.getElem?_eq_getElem (by omega)
    have h1 := hf j f hj
    rw [ho, hk] at h1
    have hone' : (cs'.drop j).take 1 = [cs'[j]'(by omega)] := by
      rw [List.drop_eq_getElem_cons (by omega)]
      rfl
    rw [hone'] at h1
    have hys : ys[j]? = some (ys[j]'(by omega)) := List.getElem?_eq_getElem (by omega)
    refine ⟨_, _, ?_, hys, h1.trans hys⟩
    rw [← Go.Deep.add_add, hcell, hv]
end

theorem weightsAll_mem {H : Type} {P : Program} {e : TypeId} : ∀ {l : List (DataW H)} {d : DataW H}, d ∈ l → ∀ n ∈ d.weights P e, n ∈ DataW.weightsAll P e l
  | d' :: r, d, hd, n, hn => by
    simp only [DataW.weightsAll, List.mem_append]
    rcases List.mem_cons.1 hd with rfl | h
    · exact Or.inl hn
    · exact Or.inr (weightsAll_mem h n hn)

instance : Inhabited Ac := ⟨⟨0, 0, 0, 0, []⟩⟩
def acFits (w : World) (g : Addr) (i : Nat) (x : Ac) : Prop :=
  (w.cell? (g.add (i * 5)) = some (.int .u8 x.d) ∧ w.cell? ((g.add (i * 5)).add 1) = some (.int .u16 x.a) ∧ w.cell? ((g.add (i * 5)).add 2) = some (.int .u16 x.b) ∧
    w.cell? ((g.add (i * 5)).add 3) = some (.int .u64 x.k) ∧ w.cell? ((g.add (i * 5)).add 4) = some (.string ⟨x.t.toArray⟩)) ∧ x.ok ∧ x.t.length ≤ 140737488355328

set_option maxRecDepth 100000 in
theorem acts_open {H : Type} {enc : TypeId × Value → H} {W : World} {base : Nat} {v : Value} {d : DataW H} {ps : List MemPlace} (hval : Value.okWide Tryd.prog W .any base 31 v)
    (h : DataW.Trod enc Tryd.prog W 0 (fun _ => true) true 31 v d ps) (hz : ∀ n ∈ d.weights Tryd.prog 31, n ≤ reachBytes) :
    ∃ l : List Ac, Acts W v l ∧ (∀ x ∈ l, x.ok ∧ x.t.length ≤ 140737488355328) ∧ ∃ ao cap, v = .slice ao l.length cap := by
  obtain ⟨a0, len0, cap0, rfl⟩ := okWide_slice Tryd.underlying31 hval
  obtain ⟨fuel, hf⟩ := h
  have hf' : DataW.trod enc Tryd.prog W 0 (fun _ => true) true fuel 31 [.slice a0 len0 cap0] = some (d, ps) := hf
  rcases open_slice_fields Tryd.underlying31 Tryd.underlying40 (by kernel_rfl) (by kernel_rfl) hf' with ⟨hn, hx⟩ | ⟨a, len, cap, m, D, Pl, hcs, hb, hl, hm, hmm, hx, hi⟩
  · simp only [List.cons.injEq, and_true, Value.slice.injEq] at hn
    obtain ⟨rfl, rfl, rfl⟩ := hn
    exact ⟨[], .inl ⟨rfl, rfl⟩, (fun x hx => by cases hx), _, _, rfl⟩
  · simp only [List.cons.injEq, and_true, Value.slice.injEq] at hcs
    obtain ⟨rfl, rfl, rfl⟩ := hcs
    rw [if_pos rfl] at hmm
    simp only [Prod.mk.injEq] at hx
    obtain ⟨rfl, _⟩ := hx
    have hex : ∀ i, ∃ x : Ac, i < len0 → acFits W a i x := by
      intro i
      by_cases hlt : i < len0
      · obtain ⟨ys, n, hD, _, hyl, hfl⟩ := hi i (by omega)
        obtain ⟨v0, y0, k0, hy0, t0⟩ := hfl 0 _ rfl
        obtain ⟨v1, y1, k1, hy1, t1⟩ := hfl 1 _ rfl
        obtain ⟨v2, y2, k2, hy2, t2⟩ := hfl 2 _ rfl
        obtain ⟨v3, y3, k3, hy3, t3⟩ := hfl 3 _ rfl
        obtain ⟨v4, y4, k4, hy4, t4⟩ := hfl 4 _ rfl
        obtain ⟨d, e0, _, wd⟩ := DataW.trod_int Tryd.underlying5 t0
        obtain ⟨a', e1, _, wa⟩ := DataW.trod_int Tryd.underlying32 t1
        obtain ⟨b, e2, _, wb⟩ := DataW.trod_int Tryd.underlying32 t2
        obtain ⟨k, e3, _, wk⟩ := DataW.trod_int Tryd.underlying38 t3
        obtain ⟨s, e4, hs, _⟩ := DataW.trod_string Tryd.underlying9 t4
        simp only [List.cons.injEq, and_true] at e0 e1 e2 e3 e4
        subst e0 e1 e2 e3 e4
        have bd := bd_u8 wd; have ba := bd_u16 wa; have bb := bd_u16 wb; have bk := bd_u64 wk
        obtain ⟨d, rfl⟩ := Int.eq_ofNat_of_zero_le bd.1
        obtain ⟨a', rfl⟩ := Int.eq_ofNat_of_zero_le ba.1
        obtain ⟨b, rfl⟩ := Int.eq_ofNat_of_zero_le bb.1
        obtain ⟨k, rfl⟩ := Int.eq_ofNat_of_zero_le bk.1
        obtain ⟨t, rfl⟩ : ∃ t : List UInt8, s = ⟨t.toArray⟩ := ⟨s.data.toList, by simp⟩
        have hlen : t.length ≤ reachBytes := by
          apply hz
          simp only [DataW.weights, Tryd.underlying31, List.mem_cons, List.mem_append]
          refine Or.inr (Or.inl (weightsAll_mem (d := D i) (List.mem_map.2 ⟨i, List.mem_range.2 hlt, rfl⟩) _ ?_))
          rw [hD]
          simp only [DataW.weights, Tryd.underlying40]
          refine DataW.weights_mem_each (j := 4) (t := 9) (d := y4.1) rfl (by rw [List.getElem?_map, hy4]; rfl) _ ?_
          rw [hs]
          simp [DataW.weights]
        refine ⟨⟨d, a', b, k, t⟩, fun _ => ⟨⟨?_, ?_, ?_, ?_, ?_⟩, ⟨by show d < 256; have := bd.2; omega, by show a' < 65536; have := ba.2; omega, by show b < 65536; have := bb.2; omega, by show k < 18446744073709551616; have := bk.2; omega⟩, Nat.le_trans hlen (by decide)⟩⟩
        · exact k0
        · rw [Go.Deep.add_add]; exact k1
        · rw [Go.Deep.add_add]; exact k2
        · rw [Go.Deep.add_add]; exact k3
        · rw [Go.Deep.add_add]; exact k4
      · exact ⟨default, fun h => absurd h hlt⟩
    obtain ⟨f, hf⟩ : ∃ f : Nat → Ac, ∀ i, i < len0 → acFits W a i (f i) := ⟨fun i => Classical.choose (hex i), fun i => Classical.choose_spec (hex i)⟩
    refine ⟨(List.range len0).map f, .inr ⟨a, cap0, by simp, fun h0 => ?_, fun i hi => ?_⟩, fun x hx => ?_, _, _, by simp; exact ⟨rfl, rfl⟩⟩
    · have := (hf 0 (by simpa using h0)).1.1
      have := World.block_lt_of_cell? W _ this
      rwa [add_block] at this
    · simp only [List.length_map, List.length_range] at hi
      simp only [List.getElem_map, List.getElem_range]
      exact (hf i hi).1
    · obtain ⟨i, hi, rfl⟩ := List.mem_map.1 hx
      exact (hf i (List.mem_range.1 hi)).2
end Go.Proofs.YtpjocnembjocgaaDoor
