/-
  slices.Backward, and leaf.Under over it: a range over a function.
-/
import Derived.RangeFuncNested
import Derived.RangeFuncBound
import Derived.RangeFuncCalls
import Derived.RangeFuncLeaves
import Derived.Shelf.Abstract
import Derived.Shelf.RegionOpen
import Derived.WalkKit
import Derived.OwnWalkIn
import Derived.TacticsInMore
import Derived.LoopNIn
import Derived.LoopIn
import Derived.Test.YtlkpceacmfndlaaProg
set_option linter.unusedSimpArgs false
set_option linter.unusedVariables false
namespace Go.Proofs.Ytlkpceacmfndlaa
open Go.RowKit Go.Shelf
attribute [local go_sem] Oper.semAt_some

abbrev KidV := Int × Int
def kidAt (zs : List KidV) (j : Nat) : KidV := zs[j]?.getD (0, 0)
def encK (x : KidV) : Value := .agg #[.int .i64 x.1, .int .i64 x.2]
/-- What has come when k rounds are over. -/
def uptoB (zs : List KidV) (k : Nat) : List (Int × KidV) := (List.range k).map fun (j : Nat) => ((zs.length : Int) - 1 - (j : Int), kidAt zs (zs.length - 1 - j))
theorem uptoB_succ (zs : List KidV) (k : Nat) : uptoB zs (k + 1) = uptoB zs k ++ [((zs.length : Int) - 1 - (k : Int), kidAt zs (zs.length - 1 - k))] := by simp [uptoB, List.range_succ]
theorem uptoB_length (zs : List KidV) (k : Nat) : (uptoB zs k).length = k := by simp [uptoB]
/-- Where kids lie. -/
def KidsAt (W : World) (b off : Nat) (zs : List KidV) : Prop := ∀ j, j < zs.length → W.cell? ⟨b, off + j * 2, none⟩ = some (.int .i64 (kidAt zs j).1) ∧ W.cell? ⟨b, off + j * 2 + 1, none⟩ = some (.int .i64 (kidAt zs j).2)

set_option maxRecDepth 100000 in
set_option maxHeartbeats 2000000 in
theorem back1_in (F : Fence) (n : Nat) (h51 : F.fn 51) (hro : F.round = none) (hn : 1 ≤ n) (l Bs n₀ b off cap : Nat) (zs : List KidV) (hlen : zs.length ≤ 1000000) (hb : b < n₀) (J Jx : List (Int × KidV) → World → Prop)
    (hY : ∀ pre x W, J pre W → pre.length < zs.length → YieldAt F (n - 1) Try.prog l #[.int .i64 x.1, encK x.2] W fun e W' =>
      (e = .returned (.bool true) ∧ J (pre ++ [x]) W' ∧ Below n₀ W W') ∨ (e = .returned (.bool false) ∧ Jx (pre ++ [x]) W'))
    (W : World) (hBs : W.cell? ⟨Bs, 0, none⟩ = some (.slice (some ⟨b, off, none⟩) zs.length cap)) (hBs' : Bs < n₀) (hc : KidsAt W b off zs) (h0 : J [] W) :
    CallsIn F n Try.prog 51 #[.func (.yield l) #[] #[], .pointer (some ⟨Bs, 0, none⟩)] W fun e W' => (∃ v, e = .returned v) ∧
      ((∃ ys, ys = uptoB zs zs.length ∧ J ys W') ∨ (∃ pre, (∃ k, k ≤ zs.length ∧ pre = uptoB zs k) ∧ Jx pre W')) := by
  refine callsIn_of_wp Try.func51 rfl h51 ?_ hro
  simp only [Try.ntmps51, List.size_toArray, List.length_cons, List.length_nil, Nat.reduceAdd, Nat.reduceSub, Array.replicate_succ, Array.replicate_zero, List.push_toArray, List.append_toArray, List.nil_append, List.cons_append]
  gi_wp2
  gi_loopw [3] (fun i wr => ∃ k : Nat, k ≤ zs.length ∧ i = .int .i64 ((zs.length : Int) - 1 - (k : Int)) ∧ J (uptoB zs k) wr ∧ Below n₀ W wr)
    (fun i _ => (intOf i + 1).toNat)
  case atStart => exact ⟨0, Nat.zero_le _, by simp, h0, Below.refl _ _⟩
  case round =>
    obtain ⟨k, hk, rfl, hJs, hnx⟩ := hrel
    have hBs2 := (hnx.cell (p := ⟨Bs, 0, none⟩) hBs').trans hBs
    by_cases hlt : k < zs.length
    · obtain ⟨j, hj⟩ : ∃ j, zs.length - 1 - k = j := ⟨_, rfl⟩
      have hjl : j < zs.length := by omega
      have hji : (zs.length : Int) - 1 - (k : Int) = (j : Int) := by omega
      have hc1 := (hnx.cell (p := ⟨b, off + j * 2, none⟩) hb).trans (hc j hjl).1
      have hc2 := (hnx.cell (p := ⟨b, off + j * 2 + 1, none⟩) hb).trans (hc j hjl).2
      obtain ⟨fn, tmps, assign, body, hy, hR⟩ := hY _ ((j : Int), kidAt zs j) wr hJs (by rw [uptoB_length]; exact hlt)
      dsimp only [encK] at hy
      rw [hji]
      gi_wp2
      refine hR.mono ?_
      rintro e W3 (⟨rfl, hJ3, hk3⟩ | ⟨rfl, hJx3⟩)
      · gi_wp2
        go_roundw
        case rel => exact ⟨k + 1, by omega, by simp [wrap64]; omega, by rw [uptoB_succ, hj, hji]; exact hJ3, hnx.trans hk3⟩
        case measure => simp [intOf]
      · gi_wp2
        refine bodyPost_ret (results_none rfl _ _ _) rfl ?_
        exact ⟨⟨_, rfl⟩, .inr ⟨_, ⟨k + 1, by omega, by rw [uptoB_succ, hj, hji]⟩, hJx3⟩⟩
    · obtain rfl : k = zs.length := by omega
      have hm : (zs.length : Int) - 1 - (zs.length : Int) = -1 := by omega
      rw [hm]
      gi_wp2
      go_end0
      exact ⟨⟨_, rfl⟩, .inl ⟨_, rfl, hJs⟩⟩
set_option maxRecDepth 100000 in
set_option maxHeartbeats 1000000 in
theorem back1_nil_in (F : Fence) (n : Nat) (h51 : F.fn 51) (hro : F.round = none) (l Bs cap : Nat) (a : Option Addr) (J : List (Int × KidV) → World → Prop) (W : World) (hBs : W.cell? ⟨Bs, 0, none⟩ = some (.slice a 0 cap)) (h0 : J [] W) :
    CallsIn F n Try.prog 51 #[.func (.yield l) #[] #[], .pointer (some ⟨Bs, 0, none⟩)] W fun e W' => (∃ v, e = .returned v) ∧ J [] W' := by
  refine callsIn_of_wp Try.func51 rfl h51 ?_ hro
  simp only [Try.ntmps51, List.size_toArray, List.length_cons, List.length_nil, Nat.reduceAdd, Nat.reduceSub, Array.replicate_succ, Array.replicate_zero, List.push_toArray, List.append_toArray, List.nil_append, List.cons_append]
  gi_wp2
  gi_loopw [3] (fun i wr => i = .int .i64 (-1) ∧ J [] wr) (fun _ _ => 0)
  case atStart => exact ⟨rfl, h0⟩
  case round =>
    obtain ⟨rfl, hJs⟩ := hrel
    gi_wp2
    go_end0
    exact ⟨⟨_, rfl⟩, hJs⟩

set_option maxHeartbeats 1000000 in
theorem back_in (F : Fence) (n : Nat) (h40 : F.fn 40) (hro : F.round = none) (a : Option Addr) (len cap : Nat) (w : World) :
    CallsIn F n Try.prog 40 #[.slice a len cap] w fun e w' => e = .returned (.func (.func 51) #[] #[.pointer (some ⟨w.heap.size, 0, none⟩)]) ∧ w' = w.alloc (.cells #[.slice a len cap] 36) := by
  refine callsIn_of_wp Try.func40 rfl h40 ?_ hro
  simp only [Try.ntmps40, List.size_toArray, List.length_cons, List.length_nil, Nat.reduceAdd, Nat.reduceSub, Array.replicate_succ, Array.replicate_zero, List.push_toArray, List.append_toArray, List.nil_append, List.cons_append]
  gi_wp2
  go_ret
  exact ⟨rfl, rfl⟩

/-- What a slice of kids is. -/
def Kids (n₀ : Nat) (W : World) (sv : Value) (zs : List KidV) : Prop :=
  (zs = [] ∧ ∃ a cap, sv = .slice a 0 cap) ∨ ∃ b off cap, sv = .slice (some ⟨b, off, none⟩) zs.length cap ∧ b < n₀ ∧ KidsAt W b off zs
theorem Kids.below {n₀ : Nat} {W W' : World} {sv : Value} {zs : List KidV} (h : Kids n₀ W sv zs) (hB : Below n₀ W W') : Kids n₀ W' sv zs := by
  rcases h with h | ⟨b, off, cap, e, hb, hc⟩
  · exact .inl h
  · exact .inr ⟨b, off, cap, e, hb, fun j hj => ⟨(hB.cell (p := ⟨b, off + j * 2, none⟩) hb).trans (hc j hj).1, (hB.cell (p := ⟨b, off + j * 2 + 1, none⟩) hb).trans (hc j hj).2⟩⟩

theorem back_stops (F : Fence) (n : Nat) (h51 : F.fn 51) (hro : F.round = none) (hn : 1 ≤ n) (Bs n₀ n₁ : Nat) (sv : Value) (zs : List KidV) (hlen : zs.length ≤ 1000000) (w : World) (hBs : Bs < n₁) (hn₁ : n₁ ≤ w.heap.size) (hn₀ : n₀ ≤ n₁)
    (hc : w.cell? ⟨Bs, 0, none⟩ = some sv) (hI : Kids n₀ w sv zs) :
    SeqStopsK F n Try.prog 51 #[.pointer (some ⟨Bs, 0, none⟩)] (fun x : Int × KidV => #[Value.int .i64 x.1, encK x.2]) (Below n₁) (fun ys => ys = uptoB zs zs.length)
      (fun pre => ∃ k, k ≤ zs.length ∧ pre = uptoB zs k) zs.length w := fun l J Jx W hW _ _ hY h0 => by
  have hc' := (hW.cell (p := ⟨Bs, 0, none⟩) (by show Bs < _; omega)).trans hc
  rcases hI.below (hW.mono (by omega)) with ⟨rfl, a, cap, rfl⟩ | ⟨b, off, cap, rfl, hb, hcs⟩
  · exact (back1_nil_in F n h51 hro l Bs cap a J W hc' h0).mono fun e W' ⟨he, hj⟩ => ⟨he, .inl ⟨_, rfl, hj⟩⟩
  · exact back1_in F n h51 hro hn l Bs n₁ b off cap zs hlen (by omega) J Jx hY W hc' hBs hcs h0
theorem block_own {β : Type} (B : Nat) (cs : Array Value) (t : TypeId) (fr : Nat × Nat) : Own (fun (_ : β) W => W.heap[B]? = some (.cells cs t fr)) := fun s X Y row hs hg hrow =>
  (hg.block B (Array.getElem?_eq_some_iff.1 hs).1 (fun e' => by obtain ⟨o, ho, hc⟩ := hrow B e'.symm; rw [show X.heap[B]? = _ from hs] at ho; cases ho; cases hc)).trans hs
def allOver (sector : Int) (pre : List (Int × KidV)) : Prop := ∀ p ∈ pre, ¬ p.2.1 ≤ sector
def lastUnder (sector : Int) (pre : List (Int × KidV)) (r : Int) : Prop := ∃ ini last, pre = ini ++ [last] ∧ allOver sector ini ∧ last.2.1 ≤ sector ∧ last.1 = r
/-- The answer: of the last one that is not above; 0 if there is none. -/
def Under (zs : List KidV) (sector r : Int) : Prop :=
  (allOver sector (uptoB zs zs.length) ∧ r = 0) ∨ ∃ k, k ≤ zs.length ∧ lastUnder sector (uptoB zs k) r

set_option maxRecDepth 100000 in
set_option maxHeartbeats 4000000 in
theorem under_in (F : Fence) (n : Nat) (h22 : F.fn 22) (h40 : F.fn 40) (h51 : F.fn 51) (hro : F.round = none) (hn : 3 ≤ n) (a : Option Addr) (len cap : Nat) (zs : List KidV) (hlen : zs.length ≤ 1000000) (sector : Int) (w : World) (hI : Kids w.heap.size w (.slice a len cap) zs) :
    CallsIn F n Try.prog 22 #[.slice a len cap, .int .i64 sector] w fun e W' => ∃ r, Under zs sector r ∧ e = .returned (.int .i64 r) ∧ Below w.heap.size w W' := by
  have h1 : 1 ≤ n := by omega
  refine callsIn_of_wp_marks Try.func22 rfl h22 ?_ hro
  simp only [Try.ntmps22, List.size_toArray, List.length_cons, List.length_nil, Nat.reduceAdd, Nat.reduceSub, Array.replicate_succ, Array.replicate_zero, List.push_toArray, List.append_toArray, List.nil_append, List.cons_append]
  gi_wp2_with (gi_at_call 40; refine (back_in F (n - 1) h40 hro _ _ _ _).mono ?_; rintro e w' ⟨rfl, rfl⟩)
  have bS := ((Boxed.new w 3 (.int .i64 sector)).alloc (.cells #[.int .i64 0] 3)).alloc (.cells #[.slice a len cap] 36)
  have bR := (Boxed.new (w.alloc (.cells #[.int .i64 sector] 3)) 3 (.int .i64 0)).alloc (.cells #[.slice a len cap] 36)
  have bN := Boxed.new ((w.alloc (.cells #[.int .i64 sector] 3)).alloc (.cells #[.int .i64 0] 3)) 36 (.slice a len cap)
  simp only [World.size_alloc] at bR bN
  have hB0 : Below w.heap.size w (((w.alloc (.cells #[.int .i64 sector] 3)).alloc (.cells #[.int .i64 0] 3)).alloc (.cells #[.slice a len cap] 36)) := (((Below.refl _ w).alloc (Nat.le_refl _) _).alloc (by simp) _).alloc (by simp; omega) _
  have hsz : (((w.alloc (.cells #[.int .i64 sector] 3)).alloc (.cells #[.int .i64 0] 3)).alloc (.cells #[.slice a len cap] 36)).heap.size = w.heap.size + 3 := by simp
  obtain ⟨W0, hW0⟩ : ∃ W0, ((w.alloc (.cells #[.int .i64 sector] 3)).alloc (.cells #[.int .i64 0] 3)).alloc (.cells #[.slice a len cap] 36) = W0 := ⟨_, rfl⟩
  rw [hW0] at bS bR bN hB0 hsz ⊢
  clear hW0
  refine wpIn_rangeFunc_ownH hro h1 (gf := 51) (lb := #[.pointer (some ⟨w.heap.size + 1 + 1, 0, none⟩)]) rfl h51 (enters_of Try.func51 (by kernel_rfl) rfl)
    (back_stops F (n - 1) h51 hro (by omega) (w.heap.size + 1 + 1) w.heap.size (w.heap.size + 3) (.slice a len cap) zs hlen W0 (by omega) (by omega) (by omega) bN.cell (hI.below hB0)) belowK_t (belowK_b (by omega)) (Below.refl _ _) (fun _ => rfl)
    (fun pre W => (((Boxed W w.heap.size 3 (.int .i64 sector) ∧ Boxed W (w.heap.size + 1) 3 (.int .i64 0)) ∧ Boxed W (w.heap.size + 1 + 1) 36 (.slice a len cap)) ∧ allOver sector pre) ∧ Below w.heap.size w W)
    (fun c pre W => (c = .ret ∧ ∃ r, lastUnder sector pre r ∧ Boxed W (w.heap.size + 1) 3 (.int .i64 r)) ∧ Below w.heap.size w W)
    (OwnFrom.and (Own.from (fun s A B row hs hg hr => ⟨⟨⟨boxed_own w.heap.size 3 (fun _ => Value.int .i64 sector) s A B row hs.1.1.1 hg hr, boxed_own (w.heap.size + 1) 3 (fun _ => Value.int .i64 0) s A B row hs.1.1.2 hg hr⟩, boxed_own (w.heap.size + 1 + 1) 36 (fun _ => Value.slice a len cap) s A B row hs.1.2 hg hr⟩, hs.2⟩) _) (ownFrom_below (Nat.le_refl _) (by omega)))
    (fun c => OwnFrom.and (Own.from (fun s A B row hs hg hr => by
      obtain ⟨hc, r, e1, e4⟩ := hs
      exact ⟨hc, r, e1, boxed_own (w.heap.size + 1) 3 (fun _ => Value.int .i64 r) s A B row e4 hg hr⟩) _) (ownFrom_below (Nat.le_refl _) (by omega)))
    ⟨⟨⟨⟨bS, bR⟩, bN⟩, by intro p hp; cases hp⟩, hB0⟩
    (fun x a' W => ∃ Bx, w.heap.size + 1 < Bx ∧ W.heap[Bx]? = some (.cells #[.int .i64 x.2.1, .int .i64 x.2.2] 57 (0, 0)) ∧ a' = { tmps := #[.slice a len cap, .int .i64 sector, undef, .pointer (some ⟨w.heap.size, 0, none⟩), .pointer (some ⟨w.heap.size + 1, 0, none⟩), .int .i64 x.1, .pointer (some ⟨Bx, 0, none⟩), .slice a len cap, .func (.func 51) #[] #[.pointer (some ⟨w.heap.size + 1 + 1, 0, none⟩)], .int .i64 x.1, encK x.2, undef, undef, undef, undef, undef], defers := [] })
    (fun x a' _ X Y row hs hg hr => by obtain ⟨Bx, h1, h2, h3⟩ := hs; exact ⟨Bx, h1, block_own (β := Unit) Bx _ _ _ () X Y row h2 hg (fun r e => (hr r e).2), h3⟩)
    ?assign ?body ?done ?stop
  case assign =>
    rintro l pre x W K ⟨⟨⟨⟨bS1, bR1⟩, bN1⟩, hp⟩, hB1⟩ hK
    dsimp only [encK]
    have hlt2 := bN1.lt
    gi_wp2
    exact hK _ _ ((KeepsOthers.alloc _ _).from _) ((Below.refl _ W).alloc (by omega) _) ⟨⟨⟨⟨bS1.alloc _, bR1.alloc _⟩, bN1.alloc _⟩, hp⟩, hB1.alloc hB1.size _⟩ ⟨W.heap.size, by omega, World.alloc_heap_new W _, rfl⟩
  case body =>
    rintro l pre x a' W hl ⟨r, hr⟩ ⟨⟨⟨⟨bS1, bR1⟩, bN1⟩, hp⟩, hB1⟩ ⟨Bx, hBx, bX, rfl⟩ hlt
    have cX : W.cell? ⟨Bx, 0, none⟩ = some (.int .i64 x.2.1) := by simp [World.cell?, bX]
    have cS := bS1.cell
    have cR := bR1.cell
    have fR := bR1.frozen
    have hlt2 := bN1.lt
    gi_wp2
    · have hx : x.2.1 ≤ sector := by assumption
      exact ⟨(KeepsOthers.setCell _ _ _).from _, ⟨rfl, x.1, ⟨pre, x, rfl, hp, hx, rfl⟩, bR1.set _⟩, hB1.setCell (p := ⟨w.heap.size + 1, 0, none⟩) (by simp) _⟩
    · have hx : ¬ x.2.1 ≤ sector := by omega
      exact ⟨KeepsFrom.refl _ _, Below.refl _ _, ⟨⟨⟨bS1, bR1⟩, bN1⟩, fun p hp' => (List.mem_append.1 hp').elim (hp p) (fun e => by simp at e; subst e; exact hx)⟩, hB1⟩
  case done =>
    rintro D ys W hD rfl ⟨⟨⟨⟨bS1, bR1⟩, bN1⟩, hp⟩, hB1⟩ hK
    have hcr := bR1.cell
    have hfr := bR1.frozen
    gi_wp2
    have hK' := (KeepsOthers.setCell W ⟨w.heap.size + 1, 0, none⟩ (.int .i64 0)).same D _ hK rfl
    refine ⟨by simp, .inl ⟨_, _, rfl, run_takeDeferred hK', ?_⟩⟩
    have hc5 := cell_kept (World.cell?_setCell_same' W ⟨w.heap.size + 1, 0, none⟩ (.int .i64 0) (by rw [hcr]; rfl)) (grownBy_putObj' _ D (.deferred none)) (fun r e => by cases e; exact ⟨_, hK', rfl⟩)
    refine ⟨.int .i64 0, ?_, 0, .inl ⟨hp, rfl⟩, rfl, (hB1.setCell (p := ⟨w.heap.size + 1, 0, none⟩) (by simp) _).trans (belowK_b (w := w) (Nat.le_refl _) _ D _ _ (by omega) hK' rfl rfl)⟩
    simp [results, Try.f22, go_sem, hc5]
  case stop =>
    rintro D c pre W hD ⟨k, hk, rfl⟩ ⟨⟨rfl, r, e1, e4⟩, hB⟩ hK
    have hcr := e4.cell
    gi_wp2
    refine ⟨by simp, .inl ⟨_, _, rfl, run_takeDeferred hK, ?_⟩⟩
    have hc5 := cell_kept hcr (grownBy_putObj' _ D (.deferred none)) (fun r e => by cases e; exact ⟨_, hK, rfl⟩)
    refine ⟨.int .i64 r, ?_, r, .inr ⟨k, hk, e1⟩, rfl, hB.trans (belowK_b (w := w) (Nat.le_refl _) W D _ _ (by omega) hK rfl rfl)⟩
    simp [results, Try.f22, go_sem, hc5]
end Go.Proofs.Ytlkpceacmfndlaa
