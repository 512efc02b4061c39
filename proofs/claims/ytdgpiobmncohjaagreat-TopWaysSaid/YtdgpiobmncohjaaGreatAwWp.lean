/-
  That the walk through abstract code tells the truth of the program's code: one operation, and regions in the text's order.
-/
import Derived.Test.YtdgpiobmncohjaaGreatAwCode
namespace Go.Proofs.YtdgpiobmncohjaaGreat.Aw
open Go.RowKit

section
variable {P : Program} {c : Ctx} {F : Nat → Prop} {l : Locs} {w : World} {s : St} {a : Act}

theorem out_run {c : Ctx} {F : Nat → Prop} {l : Locs} {w : World} {res : Result Next} {pv : PV} {ob' : List AObj} {v : Value} {w' : World} {F' : Nat → Prop} {l' : Locs} (h : res = .ok (.value v) w') (R : RepW c F' l' ob' w') (hv : R1 w' F' l' pv v) (m : Mono w F l w' F' l') : Out c w F l res pv ob' :=
  ⟨v, w', F', l', .inl h, R, hv, m⟩

theorem evnil {a : Act} : a.eval (.const (.slice none 0 0)) = .slice none 0 0 := rfl
theorem andThen_assoc {α β γ : Type} (r : Result α) (f : α → World → Result β) (g : β → World → Result γ) : (r.andThen f).andThen g = r.andThen fun x w => (f x w).andThen g := by cases r <;> rfl

/-- Every operation but a call. -/
theorem ev_sound {own : List Nat} {forb : List Nat} {nw : Option Nat} {o : Oper} {ao : AO} {pv : PV} {ob' : List AObj} (hc : compOp P own o = some ao) (R : RepW c F l s.ob w) (hs : SlotsOk w F l s a) (he : ev forb nw s ao = some (pv, ob')) :
    Out c w F l ((execOp a.eval o).run P w) pv ob' := by
  unfold compOp at hc
  split at hc
  · -- move
    rename_i x hop
    simp only [Option.some.injEq] at hc; subst hc
    simp only [ev, Option.some.injEq, Prod.mk.injEq] at he
    obtain ⟨rfl, rfl⟩ := he
    exact Out.same R (by simp [execOp, hop]) (opx_sound hs x)
  · -- assign
    rename_i x hop
    split at hc
    · rename_i hcond
      split at hc
      · rename_i e hu
        simp only [Option.map_eq_some_iff] at hc
        obtain ⟨i, hi, rfl⟩ := hc
        simp only [ev, Option.map_eq_some_iff] at he
        obtain ⟨⟨k, ob1⟩, hmk, he⟩ := he
        simp only [Prod.mk.injEq] at he
        obtain ⟨rfl, rfl⟩ := he
        obtain ⟨l', R', m', hv⟩ := new_nil R hmk
        simp only [Bool.and_eq_true] at hcond
        have hx : a.eval x = .slice none 0 0 := by
          have := hcond.2
          unfold isNilSlice at this
          split at this
          · rfl
          · cases this
        exact out_run (by simp [execOp, hop, hx]) R' hv m'
      · cases hc
    · simp only [Option.some.injEq] at hc; subst hc
      simp only [ev, Option.some.injEq, Prod.mk.injEq] at he
      obtain ⟨rfl, rfl⟩ := he
      exact Out.same R (by simp [execOp, hop]) (opx_sound hs x)
  · -- pick
    rename_i x y z hop
    simp only [Option.some.injEq] at hc; subst hc
    obtain ⟨v, rfl, h1, h2⟩ := pick_sound hop hs he
    exact Out.same R h1 h2
  · rename_i e hop
    split at hc
    · split at hc
      · obtain ⟨v, w', l', h1, R', m', h2⟩ := balloc_sound hc R he
        exact out_run (by simp [execOp, hop, h1]) R' h2 m'
      · obtain ⟨v, w', l', h1, R', m', h2⟩ := alloc_sound hc R he
        exact out_run (by simp [execOp, hop, h1]) R' h2 m'
    · obtain ⟨v, w', l', h1, R', m', h2⟩ := alloc_sound hc R he
      exact out_run (by simp [execOp, hop, h1]) R' h2 m'
  · rename_i e x hop
    simp only [Option.some.injEq] at hc; subst hc
    obtain ⟨v, w', l', h1, R', m', h2⟩ := box_sound (P := P) (e := e) R hs he
    exact out_run (by simp [execOp, hop, h1]) R' h2 m'
  · rename_i t ps hop
    obtain ⟨v, rfl, h1, h2⟩ := build_sound (w := w) hc hs he
    exact Out.same R (by simp only [execOp, hop, Sem.run_bind, h1, Result.andThen_ok, Sem.run_pure]) h2
  · rename_i t n ps hop
    obtain ⟨v, w', F', l', h1, R', m', h2⟩ := blds_sound hc R hs he
    exact out_run (by simp only [execOp, hop, Sem.run_bind, h1, Result.andThen_ok, Sem.run_pure]) R' h2 m'
  · rename_i t x hop
    obtain ⟨v, rfl, h1, h2⟩ := cLoad_sound hc R hs he
    exact Out.same R (by simp [execOp, hop, h1]) h2
  · rename_i t x y hop
    obtain ⟨rfl, w', l', h1, R', m'⟩ := cStore_sound hc R hs he
    exact ⟨undef, w', F, l', .inr ⟨by simp [execOp, hop, h1], rfl⟩, R', .bot _, m'⟩
  · rename_i x hop
    simp only [Option.some.injEq] at hc; subst hc
    obtain ⟨v, rfl, h1, h2⟩ := nilck_sound (P := P) hop hs he
    exact Out.same R h1 h2
  · -- binOp
    rename_i op t x y yt hop
    have hrun : (execOp a.eval o).run P w = ((do eqGuard op t x y (a.eval x) (a.eval y); binOp op t (a.eval x) (a.eval y)).run P w).andThen fun v w => .ok (.value v) w := by
      simp only [execOp, hop, Sem.run_bind, Sem.run_pure, andThen_assoc]
    rw [hrun]
    unfold binAll at hc
    split at hc
    · obtain ⟨v, rfl, h1, h2⟩ := eqs_sound (w := w) hc hs he
      exact Out.same R (by simp only [Bool.false_eq_true, if_false] at h1; rw [h1]; rfl) h2
    · obtain ⟨v, rfl, h1, h2⟩ := eqs_sound (w := w) hc hs he
      exact Out.same R (by simp only [if_true] at h1; rw [h1]; rfl) h2
    · unfold cBin at hc
      split at hc
      · simp only [Option.some.injEq] at hc; subst hc
        obtain ⟨v, rfl, h1, h2⟩ := eqb_sound (t := t) (w := w) (P := P) (by assumption) hs he
        exact Out.same R (by simp only [Bool.false_eq_true, if_false] at h1; rw [h1]; rfl) h2
      · simp only [Option.some.injEq] at hc; subst hc
        obtain ⟨v, rfl, h1, h2⟩ := eqb_sound (t := t) (w := w) (P := P) (by assumption) hs he
        exact Out.same R (by simp only [if_true] at h1; rw [h1]; rfl) h2
      · simp only [Option.some.injEq] at hc; subst hc
        obtain ⟨v, rfl, h1, h2⟩ := bin_sound (P := P) (w := w) (t := t) hs he
        exact Out.same R (by rw [h1]; rfl) h2
      · simp only [Option.some.injEq] at hc; subst hc
        obtain ⟨v, rfl, h1, h2⟩ := bin_sound (P := P) (w := w) (t := t) hs he
        exact Out.same R (by rw [h1]; rfl) h2
      · simp only [Option.some.injEq] at hc; subst hc
        obtain ⟨v, rfl, h1, h2⟩ := bin_sound (P := P) (w := w) (t := t) hs he
        exact Out.same R (by rw [h1]; rfl) h2
      · simp only [Option.some.injEq] at hc; subst hc
        obtain ⟨v, rfl, h1, h2⟩ := bin_sound (P := P) (w := w) (t := t) hs he
        exact Out.same R (by rw [h1]; rfl) h2
      · split at hc
        · simp only [Option.some.injEq] at hc; subst hc
          obtain ⟨v, rfl, h1, h2⟩ := nilsl_sound (P := P) (w := w) (t := t) (by assumption) hs he
          exact Out.same R (by simp only [Bool.false_eq_true, if_false] at h1; rw [evnil, h1]; rfl) h2
        · cases hc
      · split at hc
        · simp only [Option.some.injEq] at hc; subst hc
          obtain ⟨v, rfl, h1, h2⟩ := nilsl_sound (P := P) (w := w) (t := t) (by assumption) hs he
          exact Out.same R (by simp only [if_true] at h1; rw [evnil, h1]; rfl) h2
        · cases hc
      · split at hc
        · simp only [Option.some.injEq] at hc; subst hc
          simp only [ev, Option.map_eq_some_iff, Prod.mk.injEq] at he
          obtain ⟨b, hb, rfl, rfl⟩ := he
          have h1 := isn_run (P := P) (t := t) (x := x) false (opx_sound hs x) hb (.inl ⟨_, rfl, by assumption, rfl⟩)
          exact Out.same R (by simp only [Bool.false_eq_true, if_false] at h1; rw [show ∀ z, a.eval (.const z) = z from fun _ => rfl, h1]; rfl) (.bool _)
        · cases hc
      · split at hc
        · simp only [Option.some.injEq] at hc; subst hc
          simp only [ev, Option.map_eq_some_iff, Prod.mk.injEq] at he
          obtain ⟨b, hb, rfl, rfl⟩ := he
          have h1 := isn_run (P := P) (t := t) (x := x) true (opx_sound hs x) hb (.inl ⟨_, rfl, by assumption, rfl⟩)
          exact Out.same R (by simp only [if_true] at h1; rw [show ∀ z, a.eval (.const z) = z from fun _ => rfl, h1]; rfl) (.bool _)
        · cases hc
      · split at hc
        · simp only [Option.some.injEq] at hc; subst hc
          simp only [ev, Option.map_eq_some_iff, Prod.mk.injEq] at he
          obtain ⟨b, hb, rfl, rfl⟩ := he
          have h1 := isn_run (P := P) (t := t) (x := x) false (opx_sound hs x) hb (.inr (.inl ⟨_, rfl, by assumption, rfl⟩))
          exact Out.same R (by simp only [Bool.false_eq_true, if_false] at h1; rw [show ∀ z, a.eval (.const z) = z from fun _ => rfl, h1]; rfl) (.bool _)
        · cases hc
      · split at hc
        · simp only [Option.some.injEq] at hc; subst hc
          simp only [ev, Option.map_eq_some_iff, Prod.mk.injEq] at he
          obtain ⟨b, hb, rfl, rfl⟩ := he
          have h1 := isn_run (P := P) (t := t) (x := x) true (opx_sound hs x) hb (.inr (.inl ⟨_, rfl, by assumption, rfl⟩))
          exact Out.same R (by simp only [if_true] at h1; rw [show ∀ z, a.eval (.const z) = z from fun _ => rfl, h1]; rfl) (.bool _)
        · cases hc
      · split at hc
        · simp only [Option.some.injEq] at hc; subst hc
          simp only [ev, Option.map_eq_some_iff, Prod.mk.injEq] at he
          obtain ⟨b, hb, rfl, rfl⟩ := he
          have h1 := isn_run (P := P) (t := t) (x := x) false (opx_sound hs x) hb (.inr (.inr ⟨_, _, rfl, by assumption, rfl⟩))
          exact Out.same R (by simp only [Bool.false_eq_true, if_false] at h1; rw [show ∀ z, a.eval (.const z) = z from fun _ => rfl, h1]; rfl) (.bool _)
        · cases hc
      · split at hc
        · simp only [Option.some.injEq] at hc; subst hc
          simp only [ev, Option.map_eq_some_iff, Prod.mk.injEq] at he
          obtain ⟨b, hb, rfl, rfl⟩ := he
          have h1 := isn_run (P := P) (t := t) (x := x) true (opx_sound hs x) hb (.inr (.inr ⟨_, _, rfl, by assumption, rfl⟩))
          exact Out.same R (by simp only [if_true] at h1; rw [show ∀ z, a.eval (.const z) = z from fun _ => rfl, h1]; rfl) (.bool _)
        · cases hc
      · cases hc
      · cases hc
      · simp only [Option.some.injEq] at hc; subst hc
        obtain ⟨v, rfl, h1, h2⟩ := bin_sound (P := P) (w := w) (t := t) hs he
        exact Out.same R (by rw [h1]; rfl) h2
  · rename_i op t x hop
    simp only [Option.some.injEq] at hc; subst hc
    obtain ⟨v, rfl, h1, h2⟩ := un_sound (P := P) (w := w) hs he
    exact Out.same R (by simp [execOp, hop, h1]) h2
  · -- convert
    rename_i src dst x hop
    unfold cConv at hc
    split at hc
    · rename_i q k hu1 hu2
      simp only [Option.some.injEq] at hc; subst hc
      obtain ⟨v, rfl, h1, h2⟩ := conv_sound (w := w) hu1 hu2 hs he
      exact Out.same R (by simp [execOp, hop, h1]) h2
    · rename_i e hu1 hu2
      split at hc
      · rename_i hu3
        simp only [Option.some.injEq] at hc; subst hc
        obtain ⟨v, rfl, h1, h2⟩ := b2s_sound (P := P) hu1 hu2 hu3 R hs he
        exact Out.same R (by simp [execOp, hop, h1]) h2
      · cases hc
    · rename_i e hu1 hu2
      split at hc
      · rename_i hu3
        simp only [Option.some.injEq] at hc; subst hc
        obtain ⟨v, w', F', l', h1, R', m', h2⟩ := s2b_sound (P := P) hu1 hu2 hu3 R hs he
        exact out_run (by simp [execOp, hop, h1]) R' h2 m'
      · cases hc
    · cases hc
  · rename_i t x hop
    obtain ⟨v, rfl, h1, h2⟩ := mki_sound (P := P) (w := w) hc hs he
    exact Out.same R (by simp [execOp, hop, h1]) h2
  · rename_i x xT t hop
    obtain ⟨v, rfl, h1, h2⟩ := tas_sound (P := P) (w := w) (xT := xT) hc hs he
    exact Out.same R (by simp [execOp, hop, h1]) h2
  · rename_i f first cap hop
    simp only [Option.some.injEq] at hc; subst hc
    obtain ⟨v, rfl, h1, h2⟩ := mkfn_sound (P := P) (w := w) hs he
    exact Out.same R (by simp [execOp, hop, h1]) h2
  · rename_i t x lo hi hop
    obtain ⟨v, rfl, h1, h2⟩ := slice_sound hc R hs he
    exact Out.same R (by simp [execOp, hop, h1]) h2
  · rename_i t x f hop
    obtain ⟨v, rfl, h1, h2⟩ := cFaddr_sound (w := w) hc hs he
    exact Out.same R (by simp [execOp, hop, h1]) h2
  · rename_i t x f hop
    obtain ⟨v, rfl, h1, h2⟩ := fld_sound (w := w) hc hs he
    exact Out.same R (by simp [execOp, hop, h1]) h2
  · rename_i t x i hop
    obtain ⟨v, rfl, h1, h2⟩ := cIaddr_sound hc R hs he
    exact Out.same R (by simp [execOp, hop, h1]) h2
  · rename_i t x i hop
    obtain ⟨v, rfl, h1, h2⟩ := idx_sound (w := w) hc hs he
    exact Out.same R (by simp [execOp, hop, h1]) h2
  · rename_i x i hop
    simp only [Option.some.injEq] at hc; subst hc
    obtain ⟨v, rfl, h1, h2⟩ := ext_sound (P := P) (w := w) hs he
    exact Out.same R (by simp [execOp, hop, h1]) h2
  · rename_i t x y hop
    obtain ⟨v, w', F', l', h1, R', m', h2⟩ := mks_sound hc R hs he
    exact out_run (by simp [execOp, hop, h1]) R' h2 m'
  · -- calls of builtins
    rename_i cl hop
    obtain ⟨callee, args, argTypes⟩ := cl
    unfold cCall at hc
    simp only [] at hc
    split at hc
    · split at hc
      · rename_i x t h1 h2
        obtain ⟨v, rfl, h3, h4⟩ := len_sound (ty := o.type) hc R hs he
        have ea : args = #[x] := by apply Array.ext'; simpa using h1
        have et : argTypes = #[t] := by apply Array.ext'; simpa using h2
        exact Out.same R (by simp [execOp, hop, resolve, invoke, builtin, ea, et, h3]) h4
      · cases hc
    · split at hc
      · rename_i x y t t' h1 h2
        have ea : args = #[x, y] := by apply Array.ext'; simpa using h1
        have et : argTypes = #[t, t'] := by apply Array.ext'; simpa using h2
        split at hc
        · rename_i ao' hao'
          simp only [Option.some.injEq] at hc; subst hc
          obtain ⟨v, w', F', l', h3, R', m', h4⟩ := app_sound (ty := o.type) hao' R hs he
          exact out_run (by simp [execOp, hop, resolve, invoke, builtin, ea, et, h3]) R' h4 m'
        · obtain ⟨v, w', F', l', h3, R', m', h4⟩ := apps_sound (ty := o.type) hc R hs he
          exact out_run (by simp [execOp, hop, resolve, invoke, builtin, ea, et, h3]) R' h4 m'
      · cases hc
    · split at hc
      · rename_i x t h1 h2
        simp only [Option.some.injEq] at hc; subst hc
        obtain ⟨v, rfl, h3, h4⟩ := usd_sound (P := P) (t := t) (ty := o.type) R hs he
        have ea : args = #[x] := by apply Array.ext'; simpa using h1
        have et : argTypes = #[t] := by apply Array.ext'; simpa using h2
        exact Out.same R (by simp [execOp, hop, resolve, invoke, builtin, ea, et, h3]) h4
      · cases hc
    · split at hc
      · rename_i x y pt it h1 h2
        obtain ⟨v, w', F', l', h3, R', m', h4⟩ := ust_sound (it := it) (ty := o.type) hc R hs he
        have ea : args = #[x, y] := by apply Array.ext'; simpa using h1
        have et : argTypes = #[pt, it] := by apply Array.ext'; simpa using h2
        exact out_run (by simp [execOp, hop, resolve, invoke, builtin, ea, et, h3]) R' h4 m'
      · cases hc
    · simp only [Option.some.injEq] at hc; subst hc
      obtain ⟨v, rfl, h1, h2⟩ := mm_sound (P := P) (w := w) (ts := argTypes) (ty := o.type) hs he
      simp only [if_true] at h1
      exact Out.same R (by simp [execOp, hop, resolve, invoke, builtin, h1]) h2
    · simp only [Option.some.injEq] at hc; subst hc
      obtain ⟨v, rfl, h1, h2⟩ := mm_sound (P := P) (w := w) (ts := argTypes) (ty := o.type) hs he
      simp only [Bool.false_eq_true, if_false] at h1
      exact Out.same R (by simp [execOp, hop, resolve, invoke, builtin, h1]) h2
    · cases hc
  · cases hc

end
end Go.Proofs.YtdgpiobmncohjaaGreat.Aw
