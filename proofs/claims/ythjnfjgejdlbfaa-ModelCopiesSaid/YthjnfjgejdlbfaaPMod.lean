/-
  A model in memory: its box, its map, its spaces, their maps.
-/
import Derived.Test.YthjnfjgejdlbfaaMMap
import Derived.Test.YthjnfjgejdlbfaaCodeB
set_option linter.unusedSimpArgs false
set_option linter.unusedVariables false
namespace Go.Proofs.Ythjnfjgejdlbfaa.Aw
open Go.RowKit

/-- A space in memory. -/
structure SpE where
  born : Nat
  s : Spc
  sb : Nat
  sm : Nat
  ck : Nat
  es : Ents
def entM (e : SpE) : Nat × Int × PV := (e.born, e.s.id, .ref e.sb 0)
def SecRel (es : Ents) (S : List Sc) : Prop := ∀ k, mGet k es = (getG k S).map fun x => PV.str x.dat
structure ModAt (ob : List AObj) (b m ck : Nat) (E : List SpE) (cap : Int) (A : List Spc) : Prop where
  hb : ob[b]? = some (.box [.int .i64 cap, .mp m])
  hm : ob[m]? = some (.map ck (E.map entM))
  ok : MapOk ck (E.map entM)
  sp : ∀ e ∈ E, ob[e.sb]? = some (.box [.int .i64 e.s.size, .mp e.sm])
  mp : ∀ e ∈ E, ob[e.sm]? = some (.map e.ck e.es)
  mok : ∀ e ∈ E, MapOk e.ck e.es
  rel : ∀ e ∈ E, SecRel e.es e.s.S
  ads : (E.map (·.sb)).Nodup
  adm : (E.map (·.sm)).Nodup
  nes : ∀ e ∈ E, e.sb ≠ b
  nem : ∀ e ∈ E, e.sm ≠ m
  mem : (E.map (·.s)).Perm A
  vol : VolOk cap A
def fpM (b m : Nat) (E : List SpE) : List Nat := b :: m :: (E.map (·.sb) ++ E.map (·.sm))
def Mod (ob : List AObj) (fp : List Nat) (b : Nat) (cap : Int) (A : List Spc) : Prop := ∃ m ck E, ModAt ob b m ck E cap A ∧ fp = fpM b m E
/-- What lies outside stays; what is new lies behind. -/
structure Frame (ob : List AObj) (fp : List Nat) (ob' : List AObj) (fp' : List Nat) : Prop where
  len : ob.length ≤ ob'.length
  out : ∀ i, i < ob.length → i ∉ fp → ob'[i]? = ob[i]?
  new : ∀ i ∈ fp', i ∈ fp ∨ ob.length ≤ i

theorem lt_of_get {ob : List AObj} {i : Nat} {a : AObj} (h : ob[i]? = some a) : i < ob.length := (List.getElem?_eq_some_iff.1 h).1
theorem Frame.refl (ob : List AObj) (fp : List Nat) : Frame ob fp ob fp := ⟨Nat.le_refl _, fun _ _ _ => rfl, fun _ h => .inl h⟩
theorem Frame.app (ob ex : List AObj) (fp : List Nat) : Frame ob fp (ob ++ ex) fp := ⟨by simp, fun i h _ => List.getElem?_append_left h, fun _ h => .inl h⟩
theorem Frame.trans {ob ob' ob'' : List AObj} {fp fp' fp'' : List Nat} (h : Frame ob fp ob' fp') (k : Frame ob' fp' ob'' fp'') : Frame ob fp ob'' fp'' := by
  refine ⟨Nat.le_trans h.len k.len, fun i hi hn => ?_, fun i hi => ?_⟩
  · rw [k.out i (Nat.lt_of_lt_of_le hi h.len) (fun hc => ?_), h.out i hi hn]
    rcases h.new i hc with h1 | h1
    · exact hn h1
    · omega
  · rcases k.new i hi with h1 | h1
    · exact h.new i h1
    · exact .inr (Nat.le_trans h.len h1)
theorem frame_set {ob : List AObj} {fp : List Nat} {i : Nat} {a : AObj} (hi : i ∈ fp) : Frame ob fp (ob.set i a) fp :=
  ⟨by simp, fun j hj hn => by rw [List.getElem?_set_ne]; rintro rfl; exact hn hi, fun j hj => .inl hj⟩
theorem mem_fpM {b m i : Nat} {E : List SpE} : i ∈ fpM b m E ↔ i = b ∨ i = m ∨ (∃ e ∈ E, e.sb = i) ∨ ∃ e ∈ E, e.sm = i := by
  simp only [fpM, List.mem_cons, List.mem_append, List.mem_map]
theorem Mod.lt {ob fp b cap A} (h : Mod ob fp b cap A) : ∀ i ∈ fp, i < ob.length := by
  obtain ⟨m, ck, E, h, rfl⟩ := h
  intro i hi
  rcases mem_fpM.1 hi with rfl | rfl | ⟨e, he, rfl⟩ | ⟨e, he, rfl⟩
  · exact lt_of_get h.hb
  · exact lt_of_get h.hm
  · exact lt_of_get (h.sp e he)
  · exact lt_of_get (h.mp e he)
theorem ModAt.keep {ob ob' : List AObj} {b m ck : Nat} {E : List SpE} {cap : Int} {A : List Spc} (h : ModAt ob b m ck E cap A) (hk : ∀ i ∈ fpM b m E, ob'[i]? = ob[i]?) : ModAt ob' b m ck E cap A :=
  ⟨(hk _ (mem_fpM.2 (.inl rfl))).trans h.hb, (hk _ (mem_fpM.2 (.inr (.inl rfl)))).trans h.hm, h.ok, fun e he => (hk _ (mem_fpM.2 (.inr (.inr (.inl ⟨e, he, rfl⟩))))).trans (h.sp e he),
   fun e he => (hk _ (mem_fpM.2 (.inr (.inr (.inr ⟨e, he, rfl⟩))))).trans (h.mp e he), h.mok, h.rel, h.ads, h.adm, h.nes, h.nem, h.mem, h.vol⟩
/-- Another model stays. -/
theorem Mod.keep {ob ob' : List AObj} {fp : List Nat} {b : Nat} {cap : Int} {A : List Spc} (h : Mod ob fp b cap A) (hk : ∀ i ∈ fp, ob'[i]? = ob[i]?) : Mod ob' fp b cap A := by
  obtain ⟨m, ck, E, h, rfl⟩ := h
  exact ⟨m, ck, E, h.keep hk, rfl⟩
theorem Mod.frame {ob ob' : List AObj} {fp fp1 fp1' : List Nat} {b : Nat} {cap : Int} {A : List Spc} (h : Mod ob fp b cap A) (hd : ∀ i ∈ fp, i ∉ fp1) (hf : Frame ob fp1 ob' fp1') : Mod ob' fp b cap A ∧ ∀ i ∈ fp, i ∉ fp1' :=
  ⟨h.keep fun i hi => hf.out i (h.lt i hi) (hd i hi), fun i hi hc => by
    rcases hf.new i hc with h1 | h1
    · exact hd i hi h1
    · have := h.lt i hi; omega⟩
theorem Mod.app {ob ex : List AObj} {fp : List Nat} {b : Nat} {cap : Int} {A : List Spc} (h : Mod ob fp b cap A) : Mod (ob ++ ex) fp b cap A := h.keep fun i hi => List.getElem?_append_left (h.lt i hi)
theorem ModAt.lt {ob b m ck E cap A} (h : ModAt ob b m ck E cap A) : ∀ i ∈ fpM b m E, i < ob.length := Mod.lt ⟨m, ck, E, h, rfl⟩

/- which space has a number -/
theorem ModAt.get {ob b m ck E cap A} (h : ModAt ob b m ck E cap A) {id : Int} {s : Spc} (hs : getG id A = some s) : ∃ E1 e E2, E = E1 ++ e :: E2 ∧ e.s = s ∧ mGet id (E.map entM) = some (.ref e.sb 0) := by
  obtain ⟨h1, h2⟩ := getG_some hs
  obtain ⟨e, he, rfl⟩ := List.mem_map.1 (h.mem.mem_iff.2 h1)
  obtain ⟨E1, E2, rfl⟩ := List.append_of_mem he
  refine ⟨E1, e, E2, rfl, rfl, ?_⟩
  have := mGet_mem h.ok.kd (entM e) (List.mem_map_of_mem he)
  simp only [entM] at this
  rw [← h2]; exact this
theorem ModAt.getN {ob b m ck E cap A} (h : ModAt ob b m ck E cap A) {id : Int} (hs : getG id A = none) : mGet id (E.map entM) = none :=
  mGet_none fun x hx => by
    obtain ⟨e, he, rfl⟩ := List.mem_map.1 hx
    exact getG_none hs e.s (h.mem.mem_iff.1 (List.mem_map_of_mem he))
theorem ModAt.keysP {ob b m ck E cap A} (h : ModAt ob b m ck E cap A) : ((E.map entM).map (·.2.1)).Perm (A.map key) := by
  have := h.mem.map (key (α := Spc))
  rw [List.map_map] at this ⊢
  exact this
theorem ModAt.len {ob b m ck E cap A} (h : ModAt ob b m ck E cap A) : E.length = A.length := by have := h.mem.length_eq; simpa using this
/-- A space's sectors. -/
theorem ModAt.secP {ob b m ck E cap A} (h : ModAt ob b m ck E cap A) {e : SpE} (he : e ∈ E) : (e.es.map (·.2.1)).Perm (e.s.S.map key) :=
  keys_perm (h.mok e he) (h.vol.sec e.s (h.mem.mem_iff.1 (List.mem_map_of_mem he))).srt fun k => by rw [h.rel e he k]; cases getG k e.s.S <;> rfl
theorem ModAt.inA {ob b m ck E cap A} (h : ModAt ob b m ck E cap A) {e : SpE} (he : e ∈ E) : e.s ∈ A := h.mem.mem_iff.1 (List.mem_map_of_mem he)
theorem ModAt.slen {ob b m ck E cap A} (h : ModAt ob b m ck E cap A) {e : SpE} (he : e ∈ E) : e.es.length = e.s.S.length := keys_len (h.secP he)

/- permutations of what there is -/
theorem insG_perm {α : Type} [Key α] {x : α} : ∀ {A : List α}, (insG x A).Perm (x :: A)
  | [] => .refl _
  | a :: r => by
    simp only [insG]
    split
    · exact .refl _
    · exact (insG_perm.cons a).trans (List.Perm.swap x a r)
theorem delG_filter {α : Type} [Key α] {id : Int} : ∀ {A : List α}, delG id A = A.filter fun a => decide (key a ≠ id)
  | [] => rfl
  | a :: r => by
    simp only [delG, List.filter_cons]
    by_cases c : key a = id
    · rw [if_pos c, if_neg (by simpa using c), delG_filter]
    · rw [if_neg c, if_pos (by simpa using c), delG_filter]
theorem delG_perm {s : Spc} {L A : List Spc} (h : (s :: L).Perm A) (hn : ∀ x ∈ L, x.id ≠ s.id) : (delG s.id A).Perm L := by
  rw [delG_filter]
  refine (h.symm.filter _).trans ?_
  rw [List.filter_cons, if_neg (by simp [key_spc]), List.filter_eq_self.2]
  intro x hx
  simp only [decide_eq_true_eq, key_spc]
  exact hn x hx
theorem ModAt.split {ob b m ck cap A} {E1 E2 : List SpE} {e : SpE} (h : ModAt ob b m ck (E1 ++ e :: E2) cap A) : (delG e.s.id A).Perm ((E1 ++ E2).map (·.s)) := by
  have hp : (e.s :: (E1 ++ E2).map (·.s)).Perm A := by
    refine List.Perm.trans ?_ h.mem
    simp only [List.map_append, List.map_cons]
    exact List.perm_middle.symm
  have hid : ((E1 ++ e :: E2).map fun x => x.s.id).Nodup := by
    have := h.ok.kd
    rw [List.map_map] at this
    exact this
  refine delG_perm hp fun x hx => ?_
  obtain ⟨y, hy, rfl⟩ := List.mem_map.1 hx
  have hid2 : ((e :: (E1 ++ E2)).map fun x => x.s.id).Nodup := (List.perm_middle.map _).nodup_iff.1 hid
  simp only [List.map_cons, List.nodup_cons] at hid2
  intro c
  exact hid2.1 (by rw [← c]; exact List.mem_map_of_mem (f := fun x : SpE => x.s.id) hy)

/- changes -/
theorem mid_mem {α : Type} {E1 E2 : List α} {e x : α} : x ∈ E1 ++ e :: E2 ↔ x = e ∨ x ∈ E1 ++ E2 := by simp only [List.mem_append, List.mem_cons]; exact ⟨fun h => by rcases h with h | h | h <;> simp [h], fun h => by rcases h with h | h | h <;> simp [h]⟩
theorem mid_nodup {α β : Type} {f : α → β} {E1 E2 : List α} {e : α} : ((E1 ++ e :: E2).map f).Nodup ↔ (∀ x ∈ E1 ++ E2, f x ≠ f e) ∧ ((E1 ++ E2).map f).Nodup := by
  rw [(List.perm_middle.map f).nodup_iff, List.map_cons, List.nodup_cons]
  refine and_congr_left fun _ => ?_
  rw [List.mem_map]
  exact ⟨fun h x hx c => h ⟨x, hx, c⟩, fun h ⟨x, hx, c⟩ => h x hx c⟩
theorem ModAt.upd {ob ob' b m ck cap A} {E1 E2 : List SpE} {e : SpE} (h : ModAt ob b m ck (E1 ++ e :: E2) cap A) {size' : Int} {S' : List Sc} {ck' : Nat} {es' : Ents}
    (hsp : ob'[e.sb]? = some (.box [.int .i64 size', .mp e.sm])) (hmp : ob'[e.sm]? = some (.map ck' es')) (hout : ∀ i, i ≠ e.sb → i ≠ e.sm → i < ob.length → ob'[i]? = ob[i]?)
    (mok : MapOk ck' es') (rel : SecRel es' S') (vol : VolOk cap (putV A ⟨e.s.id, size', S'⟩)) :
    ModAt ob' b m ck (E1 ++ ⟨e.born, ⟨e.s.id, size', S'⟩, e.sb, e.sm, ck', es'⟩ :: E2) cap (putV A ⟨e.s.id, size', S'⟩) := by
  have hme : e ∈ E1 ++ e :: E2 := mid_mem.2 (.inl rfl)
  have hoth : ∀ x ∈ E1 ++ E2, x ∈ E1 ++ e :: E2 := fun x hx => mid_mem.2 (.inr hx)
  have hes : (E1 ++ ⟨e.born, ⟨e.s.id, size', S'⟩, e.sb, e.sm, ck', es'⟩ :: E2).map entM = (E1 ++ e :: E2).map entM := by simp [entM]
  have a1 := mid_nodup.1 h.ads
  have a2 := mid_nodup.1 h.adm
  have hb1 : e.sb ≠ b := h.nes e hme
  have hm1 : e.sm ≠ m := h.nem e hme
  have hbm : b ≠ e.sm := fun c => by have := h.hb; rw [c, h.mp e hme] at this; cases this
  have hmb : m ≠ e.sb := fun c => by have := h.hm; rw [c, h.sp e hme] at this; cases this
  have hsm : ∀ x ∈ E1 ++ E2, x.sb ≠ e.sm := fun x hx c => by have := h.sp x (hoth x hx); rw [c, h.mp e hme] at this; cases this
  have hms : ∀ x ∈ E1 ++ E2, x.sm ≠ e.sb := fun x hx c => by have := h.mp x (hoth x hx); rw [c, h.sp e hme] at this; cases this
  refine ⟨by rw [hout b (Ne.symm hb1) hbm (lt_of_get h.hb)]; exact h.hb, by rw [hout m hmb (Ne.symm hm1) (lt_of_get h.hm), hes]; exact h.hm, by rw [hes]; exact h.ok, ?_, ?_, ?_, ?_, ?_, ?_, ?_, ?_, ?_, vol⟩
  · intro x hx
    rcases mid_mem.1 hx with rfl | hx
    · exact hsp
    · rw [hout x.sb (a1.1 x hx) (hsm x hx) (lt_of_get (h.sp x (hoth x hx)))]; exact h.sp x (hoth x hx)
  · intro x hx
    rcases mid_mem.1 hx with rfl | hx
    · exact hmp
    · rw [hout x.sm (hms x hx) (a2.1 x hx) (lt_of_get (h.mp x (hoth x hx)))]; exact h.mp x (hoth x hx)
  · intro x hx
    rcases mid_mem.1 hx with rfl | hx
    · exact mok
    · exact h.mok x (hoth x hx)
  · intro x hx
    rcases mid_mem.1 hx with rfl | hx
    · exact rel
    · exact h.rel x (hoth x hx)
  · exact mid_nodup.2 a1
  · exact mid_nodup.2 a2
  · intro x hx
    rcases mid_mem.1 hx with rfl | hx
    · exact hb1
    · exact h.nes x (hoth x hx)
  · intro x hx
    rcases mid_mem.1 hx with rfl | hx
    · exact hm1
    · exact h.nem x (hoth x hx)
  · have h1 := h.split
    refine List.Perm.trans ?_ insG_perm.symm
    simp only [List.map_append, List.map_cons]
    refine List.perm_middle.trans (List.Perm.cons _ ?_)
    rw [← List.map_append]
    exact h1.symm
theorem fpM_upd {b m : Nat} {E1 E2 : List SpE} {e : SpE} {s' : Spc} {ck' : Nat} {es' : Ents} : fpM b m (E1 ++ ⟨e.born, s', e.sb, e.sm, ck', es'⟩ :: E2) = fpM b m (E1 ++ e :: E2) := by simp [fpM]
theorem ModAt.del {ob b m ck cap A} {E1 E2 : List SpE} {e : SpE} (h : ModAt ob b m ck (E1 ++ e :: E2) cap A) :
    ModAt (ob.set m (.map ck (mDel e.s.id ((E1 ++ e :: E2).map entM)))) b m ck (E1 ++ E2) cap (delG e.s.id A) := by
  have hme : e ∈ E1 ++ e :: E2 := mid_mem.2 (.inl rfl)
  have hoth : ∀ x ∈ E1 ++ E2, x ∈ E1 ++ e :: E2 := fun x hx => mid_mem.2 (.inr hx)
  have hlt := lt_of_get h.hm
  have hsub : (E1 ++ E2).Sublist (E1 ++ e :: E2) := List.Sublist.append_left (List.sublist_cons_self _ _) _
  have hd : mDel e.s.id ((E1 ++ e :: E2).map entM) = (E1 ++ E2).map entM := by
    rw [mDel_filter h.ok.kd]
    have hid : ((E1 ++ e :: E2).map fun x => x.s.id).Nodup := by
      have := h.ok.kd
      rw [List.map_map] at this
      exact this
    have a1 := (mid_nodup.1 hid).1
    have hs : ∀ L : List SpE, (∀ x ∈ L, x.s.id ≠ e.s.id) → (L.map entM).filter (fun x => decide (x.2.1 ≠ e.s.id)) = L.map entM := by
      intro L hL
      rw [List.filter_eq_self]
      intro x hx
      obtain ⟨y, hy, rfl⟩ := List.mem_map.1 hx
      simp only [decide_eq_true_eq]
      exact hL y hy
    rw [List.map_append, List.map_cons, List.filter_append, List.filter_cons, if_neg (by simp [entM]), hs E1 fun x hx => a1 x (List.mem_append_left _ hx), hs E2 fun x hx => a1 x (List.mem_append_right _ hx), List.map_append]
  have hkeep : ∀ i, i ≠ m → (ob.set m (.map ck (mDel e.s.id ((E1 ++ e :: E2).map entM))))[i]? = ob[i]? := fun i hi => by rw [List.getElem?_set_ne (Ne.symm hi)]
  have hbm : b ≠ m := fun c => by have := h.hb; rw [c, h.hm] at this; cases this
  refine ⟨(hkeep b hbm).trans h.hb, by rw [List.getElem?_set_self hlt, hd], h.ok.sub (hsub.map entM), fun x hx => ?_, fun x hx => ?_, fun x hx => h.mok x (hoth x hx), fun x hx => h.rel x (hoth x hx), (mid_nodup.1 h.ads).2, (mid_nodup.1 h.adm).2, fun x hx => h.nes x (hoth x hx), fun x hx => h.nem x (hoth x hx), h.split.symm, h.vol.del _⟩
  · rw [hkeep x.sb (fun c => by have := h.sp x (hoth x hx); rw [c, h.hm] at this; cases this)]; exact h.sp x (hoth x hx)
  · rw [hkeep x.sm (h.nem x (hoth x hx))]; exact h.mp x (hoth x hx)
theorem ModAt.add {ob ob' b m ck E cap A} (h : ModAt ob b m ck E cap A) {id size : Int} {sb sm : Nat} (hn : getG id A = none) (hsb : ob.length ≤ sb) (hsm : ob.length ≤ sm)
    (h1 : ob'[sb]? = some (.box [.int .i64 size, .mp sm])) (h2 : ob'[sm]? = some (.map 0 [])) (h3 : ob'[m]? = some (.map (ck + 1) (E.map entM ++ [(ck, id, PV.ref sb 0)]))) (hout : ∀ i, i ≠ m → i < ob.length → ob'[i]? = ob[i]?)
    (vol : VolOk cap (insG ⟨id, size, []⟩ A)) : ModAt ob' b m (ck + 1) (E ++ [⟨ck, ⟨id, size, []⟩, sb, sm, 0, []⟩]) cap (insG ⟨id, size, []⟩ A) := by
  have hlm := lt_of_get h.hm
  have hlb := lt_of_get h.hb
  have hbm : b ≠ m := fun c => by have := h.hb; rw [c, h.hm] at this; cases this
  have hE : ∀ e ∈ E, e.s.id ≠ id := fun e he => getG_none hn e.s (h.inA he)
  have hls : ∀ e ∈ E, e.sb < ob.length := fun e he => lt_of_get (h.sp e he)
  have hlm' : ∀ e ∈ E, e.sm < ob.length := fun e he => lt_of_get (h.mp e he)
  have hmap : (E ++ [(⟨ck, ⟨id, size, []⟩, sb, sm, 0, []⟩ : SpE)]).map entM = E.map entM ++ [(ck, id, PV.ref sb 0)] := by simp [entM]
  have hai := vol.ids _ (mem_insG.2 (.inl rfl))
  have hlen := h.len
  have hl8 := h.vol.len
  have hin : ∀ {x : SpE}, x ∈ E ++ [(⟨ck, ⟨id, size, []⟩, sb, sm, 0, []⟩ : SpE)] → x ∈ E ∨ x = (⟨ck, ⟨id, size, []⟩, sb, sm, 0, []⟩ : SpE) := fun {x} hx => by simpa using hx
  refine ⟨(hout b hbm hlb).trans h.hb, by rw [hmap]; exact h3, ⟨fun e he => ?_, ?_, ?_, fun e he => ?_, ?_⟩, fun x hx => ?_, fun x hx => ?_, fun x hx => ?_, fun x hx => ?_, ?_, ?_, fun x hx => ?_, fun x hx => ?_, ?_, vol⟩
  · rw [hmap] at he
    rcases List.mem_append.1 he with he | he
    · exact Nat.lt_succ_of_lt (h.ok.lt e he)
    · simp only [List.mem_singleton] at he; subst he; exact Nat.lt_succ_self _
  · rw [hmap, List.map_append, List.nodup_append]
    refine ⟨h.ok.nd, by simp, fun x hx y hy => ?_⟩
    obtain ⟨e, he, rfl⟩ := List.mem_map.1 hx
    simp only [List.map_cons, List.map_nil, List.mem_singleton] at hy
    subst hy
    have := h.ok.lt e he; omega
  · rw [hmap, List.map_append, List.nodup_append]
    refine ⟨h.ok.kd, by simp, fun x hx y hy => ?_⟩
    obtain ⟨e, he, rfl⟩ := List.mem_map.1 hx
    obtain ⟨z, hz, rfl⟩ := List.mem_map.1 he
    simp only [List.map_cons, List.map_nil, List.mem_singleton] at hy
    subst hy
    exact hE z hz
  · rw [hmap] at he
    rcases List.mem_append.1 he with he | he
    · exact h.ok.kw e he
    · simp only [List.mem_singleton] at he; subst he
      exact wf_k (by show _ ≤ id; simp only at hai; omega) (by show id ≤ _; simp only at hai; omega)
  · rw [hmap]; simp; omega
  · rcases hin hx with hx | rfl
    · rw [hout _ (fun c => by have := h.sp x hx; rw [c, h.hm] at this; cases this) (hls x hx)]; exact h.sp x hx
    · exact h1
  · rcases hin hx with hx | rfl
    · rw [hout _ (h.nem x hx) (hlm' x hx)]; exact h.mp x hx
    · exact h2
  · rcases hin hx with hx | rfl
    · exact h.mok x hx
    · exact .nil
  · rcases hin hx with hx | rfl
    · exact h.rel x hx
    · intro k; rfl
  · rw [List.map_append, List.nodup_append]
    refine ⟨h.ads, by simp, fun x hx y hy => ?_⟩
    obtain ⟨e, he, rfl⟩ := List.mem_map.1 hx
    simp only [List.map_cons, List.map_nil, List.mem_singleton] at hy
    subst hy
    have := hls e he; omega
  · rw [List.map_append, List.nodup_append]
    refine ⟨h.adm, by simp, fun x hx y hy => ?_⟩
    obtain ⟨e, he, rfl⟩ := List.mem_map.1 hx
    simp only [List.map_cons, List.map_nil, List.mem_singleton] at hy
    subst hy
    have := hlm' e he; omega
  · rcases hin hx with hx | rfl
    · exact h.nes x hx
    · show sb ≠ b; omega
  · rcases hin hx with hx | rfl
    · exact h.nem x hx
    · show sm ≠ m; omega
  · refine List.Perm.trans ?_ insG_perm.symm
    simp only [List.map_append, List.map_cons, List.map_nil]
    exact (List.perm_append_singleton _ _).trans (h.mem.cons _)
end Go.Proofs.Ythjnfjgejdlbfaa.Aw
