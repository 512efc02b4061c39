/-
  FieldBack: it returns true whatever the input.
-/
import Derived.Test.YtamaonfdonfkaaaRows
import Derived.Test.YtamaonfdonfkaaaAwOpen
import Derived.Test.YtamaonfdonfkaaaL01b
import Derived.SizedLaws
set_option linter.unusedSimpArgs false
set_option linter.unusedVariables false
namespace Go.Proofs.Ytamaonfdonfkaaa.Aw
open Go.RowKit
open Go.ChangeShapes Go.WideShapes Go.ChangeMaps Go.ChangeAt
section
variable {H : Type} {enc : TypeId × Value → H} {P : Program}
theorem closes_q {fn : Func} {s : ChangeSpec} {f : Nat} {W : World} {b : Nat} {r : Reach} {args : Array Value} {ds gs : List (DataW H)} {before : List MemPlace} {t : TypeId} (shs : List Sh) (hl : laidOutB P = true)
    (hval : ∀ (j : Nat) t v, fn.params[j]? = some t → args[j]? = some v → Value.okWide P W r b t v)
    (hW : DataW.Whole enc P fn.params.toList s.vars false W args.toList ds gs before) (hts : (fn.params.toList.all fun t => P.readableRec t && decide (t < P.types.size)) = true) (hvars : s.vars = []) (hres : fn.resultTypes = #[t])
    (ht : P.underlying t = some .bool) (hs : ds.length = shs.length → gs = [] → s.fn H (ds ++ gs) = { results := [.lit (.bool true)], args := ds }) (hsh : ofAll P shs fn.params.toList = true)
    (hp : ∀ ps, RL W (fun b => b < W.heap.size) (fun _ => none) ps args.toList → fitVs shs ps → PCall P f ps (.bool true)) :
    Calls P f args W fun e W' => ∃ v, e = .returned v ∧ s.post enc P fn false true false false W args v W' := by
  have hW' := hW
  obtain ⟨p, q, hA, hV, hpq, hfz, hnd⟩ := hW
  obtain ⟨ps, h1, h2, h3⟩ := args_fit shs fn.params.toList args.toList ds p hsh (fun j t v h1 h2 => hval j t v (by simpa using h1) (by simpa using h2)) hA
  exact closes hl hW' hts hvars hres ht (hs h3) (fun _ h => h) h1 (hp ps h1 h2)
variable {w : World} {base : Nat} {spare : Nat → Bool} {held : Bool}
theorem str1 {e : TypeId} (he : P.underlying e = some .string) {fuel : Nat} {x : Value} {y : DataW H × List MemPlace} (h : DataW.trod enc P w base spare held fuel e [x] = some y) : ∃ s : ByteArray, x = .string s ∧ y.1 = .lit (.string s.data.toList) := by
  cases fuel with
  | zero => simp [DataW.trod] at h
  | succ fuel =>
    unfold DataW.trod at h
    simp only [he] at h
    cases x <;> simp only [] at h <;> try (cases h; done)
    rename_i s
    split at h
    · cases h; exact ⟨s, rfl, rfl⟩
    · cases h
theorem strs2 {t e : TypeId} (hu : P.underlying t = some (.array 2 e)) (he : P.underlying e = some .string) (hc : P.cellsOf e = 1) (hct : P.cellsOf t = 2) {v : Value} {d : DataW H} {p : List MemPlace}
    (h : DataW.Trod enc P w base spare held t v d p) : ∃ s1 s2 : ByteArray, v.cells.toList = [.string s1, .string s2] ∧ d = .agg [.lit (.string s1.data.toList), .lit (.string s2.data.toList)] := by
  obtain ⟨fuel, h⟩ := h
  generalize v.cells.toList = cs at h ⊢
  cases fuel with
  | zero => simp [DataW.trod] at h
  | succ fuel =>
    unfold DataW.trod at h
    simp only [hu, hct, hc] at h
    split at h
    · rename_i hl
      match cs, hl with
      | [x1, x2], _ =>
        rw [show List.range 2 = [0, 1] from rfl] at h
        simp only [List.mapM_cons, List.mapM_nil, Option.pure_def, Option.bind_eq_bind, Option.map_eq_some_iff, Option.bind_eq_some_iff, Option.some.injEq, Prod.mk.injEq] at h
        obtain ⟨l, ⟨y1, h1, l2, ⟨y2, h2, l3, hl3, hl2⟩, hl⟩, hd, _⟩ := h
        subst hl3; subst hl2; subst hl
        obtain ⟨s1, rfl, e1⟩ := str1 he (show DataW.trod enc P w base spare held fuel e [x1] = some y1 from h1)
        obtain ⟨s2, rfl, e2⟩ := str1 he (show DataW.trod enc P w base spare held fuel e [x2] = some y2 from h2)
        refine ⟨s1, s2, rfl, ?_⟩
        rw [← hd]; simp [e1, e2]
    · cases h
end
section
variable {H : Type} {enc : TypeId × Value → H} {P : Program} {w : World} {base : Nat} {spare : Nat → Bool} {held : Bool}
theorem strs_of_args {t0 t1 t2 e : TypeId} {vt : List TypeId} (hu : P.underlying t2 = some (.array 2 e)) (he : P.underlying e = some .string) (hc : P.cellsOf e = 1) (hct : P.cellsOf t2 = 2) {vs : List Value} {ds gs : List (DataW H)} {p : List MemPlace}
    (hA : DataW.TrodAll enc P w base spare held [t0, t1, t2] vs ds p) (hwt : (DataW.weightsEach P ([t0, t1, t2] ++ vt) (ds ++ gs)).all (fun n => decide (n ≤ reachBytes)) = true)
    {F : Nat → Prop} {l : Locs} {a0 a1 : PV} {a b : List UInt8} (hrl : RL w F l [a0, a1, .agg [.str a, .str b]] vs) : a.length ≤ reachBytes ∧ b.length ≤ reachBytes := by
  match vs, ds, hA with
  | [v0, v1, v2], [d0, d1, d2], hA =>
    simp only [DataW.TrodAll] at hA
    obtain ⟨_, _, _, ⟨_, _, _, ⟨_, _, h2, _⟩, _⟩, _⟩ := hA
    obtain ⟨s1, s2, hv, hd⟩ := strs2 hu he hc hct h2
    have hr := hrl.2 2 _ v2 rfl rfl
    cases hr with
    | agg hl h =>
      rename_i xs
      have hx : xs = [.string s1, .string s2] := by simpa [Value.cells] using hv
      subst hx
      have r1 := h 0 _ _ rfl rfl
      have r2 := h 1 _ _ rfl rfl
      simp only [List.cons_append, List.nil_append, DataW.weightsEach, List.all_append, Bool.and_eq_true] at hwt
      have h3 := hwt.2.2.1
      rw [hd] at h3
      simp only [DataW.weights, hu, DataW.weightsAll, List.append_nil, List.all_append, List.all_cons, List.all_nil, Bool.and_true, Bool.and_eq_true, decide_eq_true_eq] at h3
      cases r1; cases r2
      simpa using h3
  | [], _, hA => exact absurd hrl.1 (by simp)
  | [_], _, hA => exact absurd hrl.1 (by simp)
  | [_, _], _, hA => exact absurd hrl.1 (by simp)
  | _ :: _ :: _ :: _ :: _, _, hA => exact absurd hrl.1 (by simp)
  | [v0, v1, v2], [], hA => simp [DataW.TrodAll] at hA
  | [v0, v1, v2], [_], hA => simp [DataW.TrodAll] at hA
  | [v0, v1, v2], [_, _], hA => simp [DataW.TrodAll] at hA
  | [v0, v1, v2], _ :: _ :: _ :: _ :: _, hA => simp [DataW.TrodAll] at hA
end
theorem back_fit (ps : List PV) (h : fitVs [.int .u64, .int .i64, .arr 2 .str] ps) (hb : ∀ a0 a1 a b, ps = [a0, a1, .agg [.str a, .str b]] → a.length ≤ reachBytes ∧ b.length ≤ reachBytes) : PCall Try.prog 5 ps (.bool true) := by
  obtain ⟨_, _, rfl, ⟨n, hn, wn⟩, _, _, rfl, ⟨w, hw, ww⟩, _, _, rfl, ⟨cs, hcs, ⟨parts, rfl, hl, hf⟩⟩, rfl⟩ := h
  cases hn; cases hw; cases hcs
  obtain ⟨m, rfl, hm⟩ := u64_nat wn
  have := bounds_i64 ww
  match parts, hl with
  | [p1, p2], _ =>
    obtain ⟨a, rfl, _⟩ := hf p1 (by simp)
    obtain ⟨b, rfl, _⟩ := hf p2 (by simp)
    have hab := hb _ _ a b rfl
    simp only [reachBytes] at hab
    exact back_law m w a b hm this.1 this.2 (by omega)
end Go.Proofs.Ytamaonfdonfkaaa.Aw
namespace Go.Proofs.Ytamaonfdonfkaaa
open Go.ChangeShapes Go.WideShapes Go.ChangeMaps Go.ChangeAt Go.RowKit Aw

theorem Try.own : ownKnob Try.prog.godebug = none := by kernel_rfl
theorem Try.laidOut : laidOutB Try.prog = true := by kernel_rfl

set_option maxRecDepth 100000 in
theorem fieldBack_lifted (os : Os) (started : os.Started) (H : Type) (enc : TypeId × Value → H) :
    ReturnsInHanded {} Try.checked os 5 .any (Rows.fieldBackSpec.pre6 enc Try.prog Try.f5 Rows.fieldBackRow.domain false) (Rows.fieldBackSpec.post enc Try.prog Try.f5 false true false false) := by
  refine returnsInHanded_of_change_sized (C := Try.checked) Try.own started (by kernel_rfl) Try.func5
    (ChangeSpec.witness6 (enc := enc) (C := Try.checked) false ⟨#[], #[.int .u64 0, .int .i64 0, .agg #[.string ⟨#[]⟩, .string ⟨#[]⟩]], []⟩ 8 (by kernel_rfl) (by kernel_rfl) (by kernel_rfl) (by kernel_rfl)) ?_
  intro W base args ds gs before hval hW hcnd hwt _
  refine closes_q (shs := [.int .u64, .int .i64, .arr 2 .str]) Try.laidOut hval hW (by kernel_rfl) rfl (by kernel_rfl) Try.underlying4 (fun hl e => ?_) (by kernel_rfl) (fun ps hrl hfit => ?_)
  · subst e
    match ds, hl with
    | [d0, d1, d2], _ => rfl
  · obtain ⟨p, q, hA, _⟩ := hW
    refine back_fit ps hfit fun a0 a1 a b e => ?_
    subst e
    exact strs_of_args (t2 := 35) (e := 9) (by kernel_rfl) (by kernel_rfl) (by kernel_rfl) (by kernel_rfl) hA hwt hrl

theorem fieldBack_holds : Rows.FieldBackSaid :=
  OpenClaim.holds_of_wide 5 Try.f5 rfl rfl rfl rfl rfl rfl rfl ⟨rfl, rfl, rfl, rfl, rfl⟩ rfl rfl rfl rfl rfl (by kernel_rfl) Try.func5 (by kernel_rfl)
    (of_decide_eq_true (by kernel_rfl)) (by unfold Func.isWrapper; first | (rw [if_pos (by decide +kernel)]; kernel_rfl) | (rw [if_neg (by decide +kernel)]; exact ⟨rfl, rfl⟩))
    (fun os started H enc _ => fieldBack_lifted os started H enc)
end Go.Proofs.Ytamaonfdonfkaaa
