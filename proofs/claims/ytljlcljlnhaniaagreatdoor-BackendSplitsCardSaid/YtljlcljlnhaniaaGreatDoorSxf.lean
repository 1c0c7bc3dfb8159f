/- Part of the proof of the statement: an evaluator of the code at closed data, run by the kernel, and that it is sound; it has no conditions of its own. -/
import Derived.ScopeJumps
import Derived.Test.YtljlcljlnhaniaaGreatDoorSxe
set_option linter.unusedVariables false
set_option linter.unusedSimpArgs false
/- Steps of the proof alone: rows are frozen, nil slices get a hold. -/
namespace Go.Sx
open Go

theorem thawL_eq (h : Nat) (x : SV) : ∀ (cs : List SV), thaw.thawL h x cs = cs.map (thaw h x)
  | [] => rfl
  | c :: cs => by simp [thaw.thawL, thawL_eq h x cs]

theorem RO.thaw {I : Nat → Nat → Prop} {w : World} {h : Nat} {x s : SV} {v : Value} (hr : RO I w s v) : RO I w (thaw h x s) v := by
  induction hr with
  | int h => exact .int h
  | bool h => exact .bool h
  | str h => exact .str h
  | nilp => exact .nilp
  | raw h => exact .raw h
  | fn h => exact .fn h
  | slnil h hn => exact .slnil h hn
  | sl g h hn hc hcm hs hl h1 hcell hrel => exact .sl g h hn hc hcm hs hl h1 hcell hrel
  | rptr g hs h1 hcell hrel => exact .rptr g hs h1 hcell hrel
  | rarr g hs hl h1 hcell hrel => exact .rarr g hs hl h1 hcell hrel
  | agg hl _ ih =>
    simp only [Sx.thaw, thawL_eq]
    refine .agg (by simpa using hl) fun i s v a b => ?_
    rw [List.getElem?_map] at a
    obtain ⟨s0, h0, rfl⟩ := Option.map_eq_some_iff.1 a
    exact ih i s0 v h0 b

theorem Rel.thaw {E E' : Env} {w : World} {h : Nat} {x s : SV} {v : Value} (hx : Ext E w E' w) (hm : ∀ v, Rel E w (.mrow h) v → Rel E' w x v) (hr : Rel E w s v) : Rel E' w (thaw h x s) v := by
  induction hr with
  | ro h => exact .ro (h.mono hx.I hx.cell).thaw
  | ptr hb hv => exact Rel.mono hx (.ptr hb hv)
  | gsl hr ht => exact Rel.mono hx (.gsl hr ht)
  | mrow hb hk hv =>
    simp only [Sx.thaw]
    split
    · rename_i e
      have e := beq_iff_eq.1 e
      subst e
      exact hm _ (.mrow hb hk hv)
    · exact Rel.mono hx (.mrow hb hk hv)
  | mptr hb hz hv => exact Rel.mono hx (.mptr hb hz hv)
  | osl ht hk => exact Rel.mono hx (.osl ht hk)
  | optr hv ho => exact Rel.mono hx (.optr hv ho)
  | agg hl _ ih =>
    simp only [Sx.thaw, thawL_eq]
    refine .agg (by simpa using hl) fun i s v a b => ?_
    rw [List.getElem?_map] at a
    obtain ⟨s0, h0, rfl⟩ := Option.map_eq_some_iff.1 a
    exact ih i s0 v h0 b
  | tup hl _ ih =>
    simp only [Sx.thaw, thawL_eq]
    refine .tup (by simpa using hl) fun i s v a b => ?_
    rw [List.getElem?_map] at a
    obtain ⟨s0, h0, rfl⟩ := Option.map_eq_some_iff.1 a
    exact ih i s0 v h0 b
  | clo hl _ ih =>
    simp only [Sx.thaw, thawL_eq]
    refine .clo (by simpa using hl) fun i s v a b => ?_
    rw [List.getElem?_map] at a
    obtain ⟨s0, h0, rfl⟩ := Option.map_eq_some_iff.1 a
    exact ih i s0 v h0 b

theorem getO_thawFr (h : Nat) (x : SV) : ∀ (fr : List (Option G)) (s : Nat), getO (thawFr h x fr) s = (getO fr s).map fun g => ⟨g.tg, g.gt, g.gf, thaw h x g.v⟩
  | [], s => by simp [thawFr, getO]
  | some g :: fr, 0 => rfl
  | none :: fr, 0 => rfl
  | some g :: fr, s + 1 => by simp only [thawFr, getO]; exact getO_thawFr h x fr s
  | none :: fr, s + 1 => by simp only [thawFr, getO]; exact getO_thawFr h x fr s
theorem len_thawFr (h : Nat) (x : SV) : ∀ (fr : List (Option G)), (thawFr h x fr).length = fr.length
  | [] => rfl
  | some g :: fr => by simp [thawFr, len_thawFr h x fr]
  | none :: fr => by simp [thawFr, len_thawFr h x fr]

def thawHl (h : Nat) (x : SV) : Hl → Hl
  | .blk ty cs => .blk ty (cs.map (thaw h x))
  | l => l
theorem thawH_eq (h : Nat) (x : SV) : ∀ (hp : List Hl), thawH h x hp = hp.map (thawHl h x)
  | [] => rfl
  | l :: hp => by cases l <;> simp [thawH, thawHl, thawL_eq, thawH_eq h x hp]

theorem StY.freeze {cx : Cx} {B : Bs} {N : Nat} {E : Env} {a : Act} {w : World} {σ σ' : Sy} {s : Nat} (hs : StY B N E a w σ) (h : ghost cx σ (.freeze s) = some σ') : ∃ E', StY B N E' a w σ' := by
  simp only [ghost] at h
  split at h
  · rename_i gt gf hd hslot
    split at h
    · rename_i ty n sz f hh
      cases h
      have hk := hs.st.heap hd
      rw [nth_hf hh] at hk
      obtain ⟨b, C, m, k1, k2, k3, k4, k5, k6, k7, ⟨r1, r2, r3, r4⟩, k9⟩ := hk
      have hbase := hs.st.base
      let E' : Env := ⟨E.β, E.τ, E.O, E.κ, E.ζ, fun b' o => E.I b' o ∨ (b' = b ∧ o < m * sz)⟩
      have hx : Ext E w E' w := ⟨fun _ _ h => h, fun _ _ h => .inl h, fun _ _ h => h, fun _ _ h => h, fun _ _ h => .inl h, fun _ _ _ => rfl⟩
      have hcell : ∀ o, w.cell? ⟨b, o, none⟩ = C[o]? := fun o => cell_of_row w b o C ty (0, 0) k5
      have hm : ∀ v, Rel E w (.mrow hd) v → Rel E' w (.sl (.l false) n sz f) v := by
        intro v hv
        obtain ⟨b', m', e1, e2, rfl⟩ := hv.mrow_inv
        obtain rfl : b = b' := Option.some.inj (k1.symm.trans e1)
        obtain rfl : m = m' := Option.some.inj (k2.symm.trans e2)
        have hidx : ∀ i j, i < m → j < sz → i * sz + j < m * sz := by
          intro i j hi hj
          have : (i + 1) * sz ≤ m * sz := Nat.mul_le_mul_right _ hi
          rw [Nat.add_mul] at this
          omega
        have hC : ∀ i j, i < m → j < sz → C[i * sz + j]? = some (C.getD (i * sz + j) undef) := by
          intro i j hi hj
          have := hidx i j hi hj
          rw [← r1] at this
          rw [Array.getD_eq_getD_getElem?, Array.getElem?_eq_getElem this]; rfl
        refine .ro (.sl (fun i j => C.getD (i * sz + j) undef) rfl k6 (Nat.le_refl _) k7 (fun _ => rfl) r2 (fun i j hi hj => r4 _ (Array.mem_of_getElem? (hC i j hi hj))) (fun i j hi hj => ⟨?_, ?_⟩) (fun i j s hi hs => ?_))
        · simp only [Nat.zero_add]; rw [hcell, hC i j hi hj]
        · simp only [Nat.zero_add]; exact .inr ⟨rfl, hidx i j hi hj⟩
        · have hj : j < sz := by rw [← r2 i hi]; exact (List.getElem?_eq_some_iff.1 hs).1
          exact (r3 i j s _ hi hs (hC i j hi hj)).mono hx.I hx.cell
      refine ⟨E', ⟨⟨⟨hbase.os, hbase.tape, hbase.output, hbase.size, hbase.old, fun b' o hi => ?_, fun b' o hi => ?_, fun b' o hi => ?_, hbase.Obd, hbase.β0.ext hx⟩, fun k => ?_, fun q => ?_, hs.st.size, hs.st.defers⟩, by show (thawFr _ _ _).length = N; rw [len_thawFr]; exact hs.len, ⟨fun q g hq i hi => ?_, fun q g i hq hi => ?_, fun q g i hq hi => ?_⟩, fun k hk => ?_⟩⟩
      · obtain ⟨i1, i2⟩ := hbase.I0 b' o hi; exact ⟨.inl i1, i2⟩
      · rcases hi with hi | ⟨rfl, _⟩
        · exact hbase.Ibd b' o hi
        · exact owned_lt hbase k4
      · rcases hi with hi | ⟨rfl, _⟩
        · exact hbase.Inew b' o hi
        · exact .inr (hbase.Obd b' hd k4).2
      · simp only [hfOf, nth_eq, setN_eq, thawH_eq]
        by_cases e : k = hd
        · subst e
          rw [List.getElem?_set]
          simp only [if_pos]
          split
          · trivial
          · have : k < σ.hp.length := by rw [nth_eq] at hh; exact (List.getElem?_eq_some_iff.1 hh).1
            rename_i hno
            exact absurd (by simpa using this) hno
        · rw [List.getElem?_set_ne (fun h => e h.symm), List.getElem?_map]
          have hkk := hs.st.heap k
          simp only [hfOf, nth_eq] at hkk
          have hO : ∀ b', E.O b' = some k → E'.O b' = some k ∧ w.heap[b']? = w.heap[b']? ∧ ∀ o, E'.I b' o → E.I b' o := by
            intro b' hO
            refine ⟨hO, rfl, fun o hi => ?_⟩
            rcases hi with hi | ⟨rfl, _⟩
            · exact hi
            · rw [k4] at hO; exact absurd (Option.some.inj hO).symm e
          cases hl : σ.hp[k]? with
          | none =>
            rw [hl] at hkk
            exact HOk.keep hx hkk rfl rfl rfl rfl hO
          | some l =>
            rw [hl] at hkk
            simp only [Option.map_some, Option.getD_some] at hkk ⊢
            cases l with
            | blk ty' cs =>
              obtain ⟨b', C', q1, q2, q3, q4, q5, q6⟩ := hkk.blk_inv
              have hn : RelL E' w (cs.map (thaw hd (.sl (.l false) n sz f))) C'.toList := q4.map _ fun s v _ h => h.thaw hx hm
              exact ⟨b', C', q1, q2, q3, by have := hn.1; simpa using this.symm, fun i s v p q => hn.2 i s v p (by simpa using q), fun v hv => q5 v (by simpa using hv), fun o hi => q6 o ((hO b' q2).2.2 o hi)⟩
            | _ => exact HOk.keep hx hkk rfl rfl rfl rfl hO
      · simp only [ffOf, getO_thawFr]
        have hsl := hs.st.slot q
        simp only [ffOf] at hsl
        cases hg : getO σ.fr q with
        | none => trivial
        | some g =>
          rw [hg] at hsl
          simp only [Option.map_some, SlotOk] at hsl ⊢
          exact ⟨hsl.1, fun hc => (hsl.2.1 hc).thaw hx hm, hsl.2.2⟩
      · have hq : getO (thawFr hd (.sl (.l false) n sz f) σ.fr) q = some g := hq
        rw [getO_thawFr] at hq
        obtain ⟨g0, h0, rfl⟩ := Option.map_eq_some_iff.1 hq
        exact hs.wf.tg q g0 h0 i hi
      · have hq : getO (thawFr hd (.sl (.l false) n sz f) σ.fr) q = some g := hq
        rw [getO_thawFr] at hq
        obtain ⟨g0, h0, rfl⟩ := Option.map_eq_some_iff.1 hq
        obtain ⟨c, c1, c2⟩ := hs.wf.gt q g0 i h0 hi
        exact ⟨c, by simp only [c1]; rfl, c2⟩
      · have hq : getO (thawFr hd (.sl (.l false) n sz f) σ.fr) q = some g := hq
        rw [getO_thawFr] at hq
        obtain ⟨g0, h0, rfl⟩ := Option.map_eq_some_iff.1 hq
        obtain ⟨c, c1, c2⟩ := hs.wf.gf q g0 i h0 hi
        exact ⟨c, by simp only [c1]; rfl, c2⟩
      · simp only [setN_eq, thawH_eq, List.length_set, List.length_map]
        exact hs.ge k hk
    · cases h
  · cases h

theorem StY.attach {cx : Cx} {B : Bs} {N : Nat} {E : Env} {a : Act} {w : World} {σ σ' : Sy} {s : Nat} {e : TypeId} (hs : StY B N E a w σ) (h : ghost cx σ (.attach s e) = some σ') : ∃ E', StY B N E' a w σ' := by
  simp only [ghost] at h
  split at h
  · rename_i gt gf sz f hslot
    split at h
    · split at h
      · cases h
        have hbase := hs.st.base
        have hfr : HOk E w (lenN σ.hp) .fresh := by
          have := hs.st.heap (lenN σ.hp)
          simpa only [hfOf, nth_eq, lenN_eq, List.getElem?_eq_none (Nat.le_refl _), Option.getD_none] using this
        obtain ⟨f1, f2, f3, f4⟩ := hfr
        let E' : Env := ⟨E.β, upd E.τ (lenN σ.hp) (some (.slice none 0 0)), E.O, E.κ, E.ζ, E.I⟩
        have hx : Ext E w E' w := by
          refine ⟨fun _ _ h => h, fun k v hk => .inl ?_, fun _ _ h => h, fun _ _ h => h, fun _ _ h => h, fun _ _ _ => rfl⟩
          show upd E.τ (lenN σ.hp) (some (.slice none 0 0)) k = some v
          unfold upd
          by_cases e : k = lenN σ.hp
          · subst e; rw [f2] at hk; cases hk
          · rw [if_neg e]; exact hk
        have hlt : s < σ.fr.length := by
          rcases Nat.lt_or_ge s σ.fr.length with h | h
          · exact h
          · rw [getO_eq, List.getElem?_eq_none h] at hslot; cases hslot
        let g0 : G := ⟨[], none, none, .gsl (.l true) (.l 0) sz f (lenN σ.hp)⟩
        have hget : ∀ k, getO (setN σ.fr s (some g0)) k = if k = s then some g0 else getO σ.fr k := fun k => by
          rw [getO_set]
          by_cases e : k = s
          · rw [if_pos ⟨e, hlt⟩, if_pos e]
          · rw [if_neg (fun h => e h.1), if_neg e]
        refine ⟨E', ⟨⟨⟨hbase.os, hbase.tape, hbase.output, hbase.size, hbase.old, hbase.I0, hbase.Ibd, hbase.Inew, hbase.Obd, hbase.β0.ext hx⟩, fun k => ?_, fun q => ?_, hs.st.size, hs.st.defers⟩, by show (setN σ.fr s _).length = N; rw [setN_eq, List.length_set]; exact hs.len, ⟨fun q g hq i hi => ?_, fun q g i hq hi => ?_, fun q g i hq hi => ?_⟩, fun k hk => ?_⟩⟩
        · have hkk := hs.st.heap k
          simp only [hfOf, nth_eq] at hkk ⊢
          rcases Nat.lt_trichotomy k σ.hp.length with h | h | h
          · rw [List.getElem?_append_left h]
            exact HOk.keep hx hkk rfl (by simp [E', upd, lenN_eq, Nat.ne_of_lt h]) rfl rfl fun b hO => ⟨hO, rfl, fun _ h => h⟩
          · subst h
            rw [List.getElem?_append_right (Nat.le_refl _)]
            simp only [Nat.sub_self, List.getElem?_cons_zero, Option.getD_some]
            exact ⟨.slice none 0 0, 0, [], by simp [E', upd, lenN_eq], World.ownsRow_nil w 0 _ sz, rfl, by simp, fun b hb => by simp [Value.ownBlock] at hb⟩
          · rw [List.getElem?_eq_none (by simp; omega)]
            rw [List.getElem?_eq_none (by omega)] at hkk
            exact HOk.keep hx hkk rfl (by simp [E', upd, lenN_eq, Nat.ne_of_gt h]) rfl rfl fun b hO => ⟨hO, rfl, fun _ h => h⟩
        · have hsl := hs.st.slot q
          show SlotOk E' w a q ((getO (setN σ.fr s (some g0)) q).map fun g => (condsOf σ.gm g.tg, g.v))
          rw [hget]
          simp only [ffOf] at hsl
          by_cases e : q = s
          · subst e
            rw [if_pos rfl]
            rw [hslot] at hsl
            simp only [Option.map_some, SlotOk, condsOf, List.filterMap_nil, allT, g0] at hsl ⊢
            refine ⟨hsl.1, fun _ => ?_, fun h => absurd trivial h⟩
            have hr := (hsl.2.1 trivial).sl_inv
            have hr' := hr.mono hx.I hx.cell
            rcases hr.sl_inv with ⟨e1, _, _⟩ | ⟨_, _, _, _, _, e1, _⟩
            · rw [e1] at hr' ⊢
              exact .gsl hr' ⟨none, 0, 0, by simp [E', upd], by simp [ST.den], fun _ => rfl⟩
            · simp [BT.den] at e1
          · rw [if_neg e]
            cases hg : getO σ.fr q with
            | none => trivial
            | some g =>
              rw [hg] at hsl
              simp only [Option.map_some, SlotOk] at hsl ⊢
              exact ⟨hsl.1, fun hc => (hsl.2.1 hc).mono hx, hsl.2.2⟩
        · have hq : getO (setN σ.fr s (some g0)) q = some g := hq
          rw [hget] at hq
          split at hq
          · cases hq; cases hi
          · exact hs.wf.tg q g hq i hi
        · have hq : getO (setN σ.fr s (some g0)) q = some g := hq
          rw [hget] at hq
          split at hq
          · cases hq; cases hi
          · exact hs.wf.gt q g i hq hi
        · have hq : getO (setN σ.fr s (some g0)) q = some g := hq
          rw [hget] at hq
          split at hq
          · cases hq; cases hi
          · exact hs.wf.gf q g i hq hi
        · have := hs.ge k hk
          simp only [List.length_append]
          omega
      · cases h
    · cases h
  · cases h

theorem StY.own {cx : Cx} {B : Bs} {N : Nat} {E : Env} {a : Act} {w : World} {σ σ' : Sy} {s : Nat} {e : TypeId} (hs : StY B N E a w σ) (h : ghost cx σ (.own s e) = some σ') : ∃ E', StY B N E' a w σ' := by
  simp only [ghost] at h
  split at h
  · rename_i gt gf sz f hslot
    split at h
    · split at h
      · cases h
        have hbase := hs.st.base
        have hfr : HOk E w (lenN σ.hp) .fresh := by
          have := hs.st.heap (lenN σ.hp)
          simpa only [hfOf, nth_eq, lenN_eq, List.getElem?_eq_none (Nat.le_refl _), Option.getD_none] using this
        obtain ⟨f1, f2, f3, f4⟩ := hfr
        let E' : Env := ⟨E.β, upd E.τ (lenN σ.hp) (some (.slice none 0 0)), E.O, E.κ, upd E.ζ (lenN σ.hp) (some sz), E.I⟩
        have hx : Ext E w E' w := by
          refine ⟨fun _ _ h => h, fun k v hk => .inl ?_, fun _ _ h => h, fun k z hk => ?_, fun _ _ h => h, fun _ _ _ => rfl⟩
          · show upd E.τ (lenN σ.hp) (some (.slice none 0 0)) k = some v
            unfold upd
            by_cases e : k = lenN σ.hp
            · subst e; rw [f2] at hk; cases hk
            · rw [if_neg e]; exact hk
          · show upd E.ζ (lenN σ.hp) (some sz) k = some z
            unfold upd
            by_cases e : k = lenN σ.hp
            · subst e; rw [f4] at hk; cases hk
            · rw [if_neg e]; exact hk
        have hlt : s < σ.fr.length := by
          rcases Nat.lt_or_ge s σ.fr.length with h | h
          · exact h
          · rw [getO_eq, List.getElem?_eq_none h] at hslot; cases hslot
        let g0 : G := ⟨[], none, none, .osl (.l true) (.l 0) (lenN σ.hp)⟩
        have hget : ∀ k, getO (setN σ.fr s (some g0)) k = if k = s then some g0 else getO σ.fr k := fun k => by
          rw [getO_set]
          by_cases e : k = s
          · rw [if_pos ⟨e, hlt⟩, if_pos e]
          · rw [if_neg (fun h => e h.1), if_neg e]
        refine ⟨E', ⟨⟨⟨hbase.os, hbase.tape, hbase.output, hbase.size, hbase.old, hbase.I0, hbase.Ibd, hbase.Inew, hbase.Obd, hbase.β0.ext hx⟩, fun k => ?_, fun q => ?_, hs.st.size, hs.st.defers⟩, by show (setN σ.fr s _).length = N; rw [setN_eq, List.length_set]; exact hs.len, ⟨fun q g hq i hi => ?_, fun q g i hq hi => ?_, fun q g i hq hi => ?_⟩, fun k hk => ?_⟩⟩
        · have hkk := hs.st.heap k
          simp only [hfOf, nth_eq] at hkk ⊢
          rcases Nat.lt_trichotomy k σ.hp.length with h | h | h
          · rw [List.getElem?_append_left h]
            exact HOk.keep hx hkk rfl (by simp [E', upd, lenN_eq, Nat.ne_of_lt h]) rfl (by simp [E', upd, lenN_eq, Nat.ne_of_lt h]) fun b hO => ⟨hO, rfl, fun _ h => h⟩
          · subst h
            rw [List.getElem?_append_right (Nat.le_refl _)]
            simp only [Nat.sub_self, List.getElem?_cons_zero, Option.getD_some]
            exact ⟨.slice none 0 0, 0, [], by simp [E', upd, lenN_eq], by simp [E', upd, lenN_eq], ⟨by simp, .inl ⟨rfl, rfl⟩⟩, rfl, by simp, ⟨by intro i hi; omega, by intro i j s u hi; omega⟩, fun b hb => by simp [Value.ownBlock] at hb⟩
          · rw [List.getElem?_eq_none (by simp; omega)]
            rw [List.getElem?_eq_none (by omega)] at hkk
            exact HOk.keep hx hkk rfl (by simp [E', upd, lenN_eq, Nat.ne_of_gt h]) rfl (by simp [E', upd, lenN_eq, Nat.ne_of_gt h]) fun b hO => ⟨hO, rfl, fun _ h => h⟩
        · have hsl := hs.st.slot q
          show SlotOk E' w a q ((getO (setN σ.fr s (some g0)) q).map fun g => (condsOf σ.gm g.tg, g.v))
          rw [hget]
          simp only [ffOf] at hsl
          by_cases e : q = s
          · subst e
            rw [if_pos rfl]
            rw [hslot] at hsl
            simp only [Option.map_some, SlotOk, condsOf, List.filterMap_nil, allT, g0] at hsl ⊢
            refine ⟨hsl.1, fun _ => ?_, fun h => absurd trivial h⟩
            have hr := (hsl.2.1 trivial).sl_inv
            rcases hr.sl_inv with ⟨e1, _, _⟩ | ⟨_, _, _, _, _, e1, _⟩
            · rw [e1]
              exact .osl ⟨none, 0, 0, rfl, rfl, by simp [BT.den]⟩ ⟨none, 0, 0, by simp [E', upd], by simp [ST.den], fun _ => rfl⟩
            · simp [BT.den] at e1
          · rw [if_neg e]
            cases hg : getO σ.fr q with
            | none => trivial
            | some g =>
              rw [hg] at hsl
              simp only [Option.map_some, SlotOk] at hsl ⊢
              exact ⟨hsl.1, fun hc => (hsl.2.1 hc).mono hx, hsl.2.2⟩
        · have hq : getO (setN σ.fr s (some g0)) q = some g := hq
          rw [hget] at hq
          split at hq
          · cases hq; cases hi
          · exact hs.wf.tg q g hq i hi
        · have hq : getO (setN σ.fr s (some g0)) q = some g := hq
          rw [hget] at hq
          split at hq
          · cases hq; cases hi
          · exact hs.wf.gt q g i hq hi
        · have hq : getO (setN σ.fr s (some g0)) q = some g := hq
          rw [hget] at hq
          split at hq
          · cases hq; cases hi
          · exact hs.wf.gf q g i hq hi
        · have := hs.ge k hk
          simp only [List.length_append]
          omega
      · cases h
    · cases h
  · cases h

/-- An owned row is read from now on. -/
theorem own_RO {E : Env} {w : World} {h : Nat} {nl : BT} {n n0 : ST} {ty : TypeId} {sz : Nat} {gr : Bool} {f : Nat → List SV} {u v : Value} {m : Nat} {xs : List Value} (hr : Rel E w (.osl nl n h) u) (hτ : E.τ h = some v) (hown : ownsW w gr ty sz v m xs) (hn0 : n0.den = (m : Int)) (he : n.den = n0.den)
    (h1 : ∀ u ∈ xs, u.oneCell' = true) (hrow : rowIn E w f m sz xs) : RO (fun b o => E.I b o ∨ (v.ownBlock = some b ∧ o < m * sz)) w (.sl nl n sz f) u := by
  obtain ⟨hu, hnl⟩ := osl_val hr hτ hown hn0 he
  subst hu
  have hn : n.den = (m : Int) := by rw [he, hn0]
  rcases hown.2 with ⟨e0, e1⟩ | ⟨b, cap, cur, fr, e0, hg2, hfr, hmc, hcm, hcs, htake⟩
  · rw [e0]
    exact .slnil (hnl.2 e0) (by rw [hn, e1]; rfl)
  · have hidx : ∀ i j, i < m → j < sz → i * sz + j < m * sz := by
      intro i j hi hj
      have : (i + 1) * sz ≤ m * sz := Nat.mul_le_mul_right _ hi
      rw [Nat.add_mul] at this
      omega
    have hxs : ∀ i j, i < m → j < sz → xs[i * sz + j]? = some (xs.getD (i * sz + j) undef) := by
      intro i j hi hj
      have := hidx i j hi hj
      rw [← hown.1] at this
      rw [List.getD_eq_getElem?_getD, List.getElem?_eq_getElem this]; rfl
    rw [e0]
    refine .sl (fun i j => xs.getD (i * sz + j) undef) ?_ hn hmc hcm (fun _ => rfl) hrow.1 (fun i j hi hj => h1 _ (List.mem_of_getElem? (hxs i j hi hj))) (fun i j hi hj => ⟨?_, ?_⟩) (fun i j s hi hs => ?_)
    · cases hb : nl.den with
      | false => rfl
      | true => rw [hnl.1 hb] at e0; simp at e0
    · simp only [Nat.zero_add]
      rw [cell_of_row w b _ cur ty fr hg2, ← hxs i j hi hj, ← htake, List.getElem?_take, if_pos (hidx i j hi hj)]
      simp
    · simp only [Nat.zero_add]
      exact .inr ⟨rfl, hidx i j hi hj⟩
    · have hj : j < sz := by rw [← hrow.1 i hi]; exact (List.getElem?_eq_some_iff.1 hs).1
      exact (hrow.2 i j s _ hi hs (hxs i j hi hj)).mono (fun b o h => .inl h) (fun _ _ _ => rfl)

theorem StY.share {cx : Cx} {B : Bs} {N : Nat} {E : Env} {a : Act} {w : World} {σ σ' : Sy} {s : Nat} (hD : cx.D = dn) (hs : StY B N E a w σ) (hp : ghostP cx σ (.share s)) (h : ghost cx σ (.share s) = some σ') : ∃ E', StY B N E' a w σ' := by
  simp only [ghost] at h
  simp only [ghostP] at hp
  split at h
  · rename_i gt gf nl n hd hslot
    rw [hslot] at hp
    simp only at hp
    split at h
    · rename_i ty n0 sz gr f hh
      rw [hh] at hp
      simp only at hp
      rw [hD] at hp
      have hp : n.den = n0.den := hp.h
      cases h
      have hbase := hs.st.base
      have hk := hs.st.heap hd
      rw [nth_hf hh] at hk
      obtain ⟨v, m, xs, k1, kz, k2, k3, k4, k5, k6⟩ := hk
      let E' : Env := ⟨E.β, E.τ, E.O, E.κ, E.ζ, fun b o => E.I b o ∨ (v.ownBlock = some b ∧ o < m * sz)⟩
      have hx : Ext E w E' w := ⟨fun _ _ h => h, fun _ _ h => .inl h, fun _ _ h => h, fun _ _ h => h, fun _ _ h => .inl h, fun _ _ _ => rfl⟩
      have hlt : s < σ.fr.length := by
        rcases Nat.lt_or_ge s σ.fr.length with h | h
        · exact h
        · rw [getO_eq, List.getElem?_eq_none h] at hslot; cases hslot
      let g0 : G := ⟨[], none, none, .sl nl n sz f⟩
      have hget : ∀ k, getO (setN σ.fr s (some g0)) k = if k = s then some g0 else getO σ.fr k := fun k => by
        rw [getO_set]
        by_cases e : k = s
        · rw [if_pos ⟨e, hlt⟩, if_pos e]
        · rw [if_neg (fun h => e h.1), if_neg e]
      refine ⟨E', ⟨⟨⟨hbase.os, hbase.tape, hbase.output, hbase.size, hbase.old, fun b' o hi => ?_, fun b' o hi => ?_, fun b' o hi => ?_, hbase.Obd, hbase.β0.ext hx⟩, fun k => ?_, fun q => ?_, hs.st.size, hs.st.defers⟩, by show (setN σ.fr s _).length = N; rw [setN_eq, List.length_set]; exact hs.len, ⟨fun q g hq i hi => ?_, fun q g i hq hi => ?_, fun q g i hq hi => ?_⟩, fun k hk => ?_⟩⟩
      · obtain ⟨i1, i2⟩ := hbase.I0 b' o hi; exact ⟨.inl i1, i2⟩
      · rcases hi with hi | ⟨hb, _⟩
        · exact hbase.Ibd b' o hi
        · exact owned_lt hbase (k6 b' hb).1
      · rcases hi with hi | ⟨hb, _⟩
        · exact hbase.Inew b' o hi
        · exact .inr (hbase.Obd b' hd (k6 b' hb).1).2
      · simp only [hfOf, nth_eq, setN_eq]
        by_cases e : k = hd
        · subst e
          rw [List.getElem?_set]
          simp only [if_pos]
          split
          · trivial
          · have : k < σ.hp.length := by rw [nth_eq] at hh; exact (List.getElem?_eq_some_iff.1 hh).1
            rename_i hno
            exact absurd (by simpa using this) hno
        · rw [List.getElem?_set_ne (fun h => e h.symm)]
          have hkk := hs.st.heap k
          simp only [hfOf, nth_eq] at hkk
          refine HOk.keep hx hkk rfl rfl rfl rfl fun b' hO => ⟨hO, rfl, fun o hi => ?_⟩
          rcases hi with hi | ⟨hb, _⟩
          · exact hi
          · rw [(k6 b' hb).1] at hO; exact absurd (Option.some.inj hO).symm e
      · have hsl := hs.st.slot q
        show SlotOk E' w a q ((getO (setN σ.fr s (some g0)) q).map fun g => (condsOf σ.gm g.tg, g.v))
        rw [hget]
        simp only [ffOf] at hsl
        by_cases e : q = s
        · subst e
          rw [if_pos rfl]
          rw [hslot] at hsl
          simp only [Option.map_some, SlotOk, condsOf, List.filterMap_nil, allT, g0] at hsl ⊢
          exact ⟨hsl.1, fun _ => .ro (own_RO (hsl.2.1 trivial) k1 k2 k3 hp k4 k5), fun h => absurd trivial h⟩
        · rw [if_neg e]
          cases hg : getO σ.fr q with
          | none => trivial
          | some g =>
            rw [hg] at hsl
            simp only [Option.map_some, SlotOk] at hsl ⊢
            exact ⟨hsl.1, fun hc => (hsl.2.1 hc).mono hx, hsl.2.2⟩
      · have hq : getO (setN σ.fr s (some g0)) q = some g := hq
        rw [hget] at hq
        split at hq
        · cases hq; cases hi
        · exact hs.wf.tg q g hq i hi
      · have hq : getO (setN σ.fr s (some g0)) q = some g := hq
        rw [hget] at hq
        split at hq
        · cases hq; cases hi
        · exact hs.wf.gt q g i hq hi
      · have hq : getO (setN σ.fr s (some g0)) q = some g := hq
        rw [hget] at hq
        split at hq
        · cases hq; cases hi
        · exact hs.wf.gf q g i hq hi
      · simp only [setN_eq, List.length_set]
        exact hs.ge k hk
    · cases h
  · cases h

theorem StY.bld {cx : Cx} {B : Bs} {N : Nat} {E : Env} {a : Act} {w : World} {σ σ' : Sy} {s e : Nat} (hs : StY B N E a w σ) (h : ghost cx σ (.bld s e) = some σ') : ∃ E', StY B N E' a w σ' := by
  simp only [ghost] at h
  split at h
  · rename_i gt gf hd hslot
    split at h
    · rename_i T f hh
      cases h
      have hbase := hs.st.base
      have hk := hs.st.heap hd
      rw [nth_hf hh] at hk
      obtain ⟨b, C, k1, k2, k3, k4, k5, k6⟩ := hk.blk_inv
      refine ⟨E, ⟨⟨hbase, fun k => ?_, hs.st.slot, hs.st.size, hs.st.defers⟩, hs.len, ⟨hs.wf.tg, hs.wf.gt, hs.wf.gf⟩, fun k hk => ?_⟩⟩
      · simp only [hfOf, nth_eq, setN_eq]
        by_cases e : k = hd
        · subst e
          have hlt : k < σ.hp.length := by rw [nth_eq] at hh; exact (List.getElem?_eq_some_iff.1 hh).1
          rw [List.getElem?_set_self hlt]
          simp only [Option.getD_some]
          match hC : C.toList, k4 with
          | [p, v], k4 =>
            have hp : p = .pointer none := by
              have := k4.2 0 .nilp p rfl rfl
              cases this with
              | ro h => cases h; rfl
            have hv : v = .slice none 0 0 := by
              have := (k4.2 1 _ v rfl rfl).sl_inv
              rcases this.sl_inv with ⟨e1, _⟩ | ⟨_, _, _, _, _, e1, _⟩
              · exact e1
              · simp [BT.den] at e1
            subst hp hv
            have hCe : C = #[.pointer none, .slice none 0 0] := by apply Array.ext'; rw [hC]
            exact ⟨b, .pointer none, .slice none 0 0, k1, k2, .inl rfl, by rw [k3, hCe], World.ownsRow_nil w 0 _ 1, by simp [Value.ownBlock], k6, by simp [Value.ownBlock]⟩
          | [], k4 => exact absurd k4.1 (by simp)
          | [_], k4 => exact absurd k4.1 (by simp)
          | _ :: _ :: _ :: _, k4 => exact absurd k4.1 (by simp)
        · rw [List.getElem?_set_ne (fun h => e h.symm)]
          have hkk := hs.st.heap k
          simp only [hfOf, nth_eq] at hkk
          exact hkk
      · simp only [setN_eq, List.length_set]
        exact hs.ge k hk
    · cases h
  · cases h

theorem StY.hold {cx : Cx} {B : Bs} {N : Nat} {E : Env} {a : Act} {w : World} {σ σ' : Sy} {s k0 e : Nat} (hs : StY B N E a w σ) (h : ghost cx σ (.hold s k0 e) = some σ') : ∃ E', StY B N E' a w σ' := by
  simp only [ghost] at h
  split at h
  · rename_i gt gf hd hslot
    split at h
    · rename_i T cs hh
      split at h
      · rename_i sz f sz' hcs hsz
        split at h
        · cases h
          have hbase := hs.st.base
          have hfr : HOk E w (lenN σ.hp) .fresh := by
            have := hs.st.heap (lenN σ.hp)
            simpa only [hfOf, nth_eq, lenN_eq, List.getElem?_eq_none (Nat.le_refl _), Option.getD_none] using this
          obtain ⟨f1, f2, f3, f4⟩ := hfr
          let E' : Env := ⟨E.β, upd E.τ (lenN σ.hp) (some (.slice none 0 0)), E.O, E.κ, E.ζ, E.I⟩
          have hx : Ext E w E' w := by
            refine ⟨fun _ _ h => h, fun k v hk => .inl ?_, fun _ _ h => h, fun _ _ h => h, fun _ _ h => h, fun _ _ _ => rfl⟩
            show upd E.τ (lenN σ.hp) (some (.slice none 0 0)) k = some v
            unfold upd
            by_cases e : k = lenN σ.hp
            · subst e; rw [f2] at hk; cases hk
            · rw [if_neg e]; exact hk
          have hlt : hd < σ.hp.length := by rw [nth_eq] at hh; exact (List.getElem?_eq_some_iff.1 hh).1
          have hk := hs.st.heap hd
          rw [nth_hf hh] at hk
          obtain ⟨b, C, k1, k2, k3, k4, k5, k7, k8⟩ := hk
          refine ⟨E', ⟨⟨⟨hbase.os, hbase.tape, hbase.output, hbase.size, hbase.old, hbase.I0, hbase.Ibd, hbase.Inew, hbase.Obd, hbase.β0.ext hx⟩, fun k => ?_, fun q => ?_, hs.st.size, hs.st.defers⟩, hs.len, ⟨hs.wf.tg, hs.wf.gt, hs.wf.gf⟩, fun k hk => ?_⟩⟩
          · have hkk := hs.st.heap k
            simp only [hfOf, nth_eq, setN_eq] at hkk ⊢
            rcases Nat.lt_trichotomy k σ.hp.length with h | h | h
            · rw [List.getElem?_append_left (by simpa using h)]
              by_cases e : k = hd
              · subst e
                rw [List.getElem?_set_self hlt]
                simp only [Option.getD_some]
                refine ⟨b, C, k1, k2, k3, by rw [List.length_set]; exact k4, fun i s' v a c => ?_, k7, k8⟩
                rw [List.getElem?_set] at a
                rw [nth_eq] at hcs
                split at a
                · rename_i hik
                  split at a
                  · cases a
                    subst hik
                    have hr := (k5 k0 _ v hcs c).sl_inv
                    have hr' := hr.mono hx.I hx.cell
                    rcases hr.sl_inv with ⟨e1, _, _⟩ | ⟨_, _, _, _, _, e1, _⟩
                    · rw [e1] at hr' ⊢
                      exact .gsl hr' ⟨none, 0, 0, by simp [E', upd], by simp [ST.den], fun _ => rfl⟩
                    · simp [BT.den] at e1
                  · cases a
                · exact (k5 i s' v a c).mono hx
              · rw [List.getElem?_set_ne (fun h => e h.symm)]
                exact HOk.keep hx hkk rfl (by simp [E', upd, lenN_eq, Nat.ne_of_lt h]) rfl rfl fun b hO => ⟨hO, rfl, fun _ h => h⟩
            · subst h
              rw [List.getElem?_append_right (by simp)]
              simp only [List.length_set, Nat.sub_self, List.getElem?_cons_zero, Option.getD_some]
              exact ⟨.slice none 0 0, 0, [], by simp [E', upd, lenN_eq], World.ownsRow_nil w 0 _ sz, rfl, by simp, fun b hb => by simp [Value.ownBlock] at hb⟩
            · rw [List.getElem?_eq_none (by simp; omega)]
              rw [List.getElem?_eq_none (by omega)] at hkk
              exact HOk.keep hx hkk rfl (by simp [E', upd, lenN_eq, Nat.ne_of_gt h]) rfl rfl fun b hO => ⟨hO, rfl, fun _ h => h⟩
          · have hsl := hs.st.slot q
            simp only [ffOf] at hsl ⊢
            cases hg : getO σ.fr q with
            | none => trivial
            | some g =>
              rw [hg] at hsl
              simp only [Option.map_some, SlotOk] at hsl ⊢
              exact ⟨hsl.1, fun hc => (hsl.2.1 hc).mono hx, hsl.2.2⟩
          · have := hs.ge k hk
            simp only [List.length_append, setN_eq, List.length_set]
            omega
        · cases h
      · cases h
    · cases h
  · cases h

theorem RO.row {I : Nat → Nat → Prop} {w : World} {nl : BT} {n : ST} {sz : Nat} {f f2 : Nat → List SV} {v : Value} (h : RO I w (.sl nl n sz f) v) (e : ∀ i : Nat, (i : Int) < n.den → f2 i = f i) : RO I w (.sl nl n sz f2) v := by
  generalize hs : SV.sl nl n sz f = s at h
  cases h with
  | slnil h hn => cases hs; exact .slnil h hn
  | sl g h hn hc hcm hs' hl h1 hcell hrel =>
    cases hs
    exact .sl g h hn hc hcm hs' (fun i hi => by rw [e i (by rw [hn]; exact Int.ofNat_lt.2 hi)]; exact hl i hi) h1 hcell (fun i j s hi hf => hrel i j s hi (by rw [← e i (by rw [hn]; exact Int.ofNat_lt.2 hi)]; exact hf))
  | _ => cases hs
theorem StY.tot {B : Bs} {N : Nat} {E : Env} {a : Act} {w : World} {σ : Sy} {s : Nat} {nl : BT} {n : ST} {sz : Nat} {f f2 : Nat → List SV} (hs : StY B N E a w σ) (h : totOf σ s = some (nl, n, sz, f)) (he : RowAs n.den f2 f) :
    StY B N E a w ⟨setN σ.fr s (some ⟨[], none, none, .sl nl n sz f2⟩), σ.hp, σ.gm⟩ := by
  have key : ∃ g, getO σ.fr s = some g ∧ g.tg = [] ∧ ∀ v, Rel E w g.v v → Rel E w (.sl nl n sz f2) v := by
    unfold totOf at h
    split at h
    · rename_i gt gf nl' n' sz' f' hg
      cases h
      refine ⟨_, hg, rfl, fun v hv => ?_⟩
      cases hv with
      | ro hr => exact .ro (hr.row he.h)
    · rename_i gt gf nl' n' sz' f' hd hg
      cases h
      refine ⟨_, hg, rfl, fun v hv => ?_⟩
      cases hv with
      | ro hr => cases hr
      | gsl hr ht => exact .ro (hr.row he.h)
    · cases h
  obtain ⟨g, hslot, htg, hrel⟩ := key
  have hlt : s < σ.fr.length := by
    rcases Nat.lt_or_ge s σ.fr.length with h | h
    · exact h
    · rw [getO_eq, List.getElem?_eq_none h] at hslot; cases hslot
  let g0 : G := ⟨[], none, none, .sl nl n sz f2⟩
  have hget : ∀ k, getO (setN σ.fr s (some g0)) k = if k = s then some g0 else getO σ.fr k := fun k => by
    rw [getO_set]
    by_cases e : k = s
    · rw [if_pos ⟨e, hlt⟩, if_pos e]
    · rw [if_neg (fun h => e h.1), if_neg e]
  refine ⟨⟨hs.st.base, hs.st.heap, fun q => ?_, hs.st.size, hs.st.defers⟩, by show (setN σ.fr s _).length = N; rw [setN_eq, List.length_set]; exact hs.len, ⟨fun q g hq i hi => ?_, fun q g i hq hi => ?_, fun q g i hq hi => ?_⟩, hs.ge⟩
  · have hsl := hs.st.slot q
    show SlotOk E w a q ((getO (setN σ.fr s (some g0)) q).map fun g => (condsOf σ.gm g.tg, g.v))
    rw [hget]
    simp only [ffOf] at hsl
    by_cases e : q = s
    · subst e
      rw [if_pos rfl]
      rw [hslot] at hsl
      simp only [Option.map_some, SlotOk, htg, condsOf, List.filterMap_nil, allT, g0] at hsl ⊢
      exact ⟨hsl.1, fun _ => hrel _ (hsl.2.1 trivial), fun h => absurd trivial h⟩
    · rw [if_neg e]
      exact hsl
  · have hq : getO (setN σ.fr s (some g0)) q = some g := hq
    rw [hget] at hq
    split at hq
    · cases hq; cases hi
    · exact hs.wf.tg q g hq i hi
  · have hq : getO (setN σ.fr s (some g0)) q = some g := hq
    rw [hget] at hq
    split at hq
    · cases hq; cases hi
    · exact hs.wf.gt q g i hq hi
  · have hq : getO (setN σ.fr s (some g0)) q = some g := hq
    rw [hget] at hq
    split at hq
    · cases hq; cases hi
    · exact hs.wf.gf q g i hq hi
theorem StY.ghosts {cx : Cx} (hD : cx.D = dn) {B : Bs} {N : Nat} {a : Act} {w : World} {K : Sy → Prop} : ∀ (l : List Gh) {E : Env} {σ : Sy}, StY B N E a w σ → Sx.ghosts cx l σ K → ∃ E' σ', StY B N E' a w σ' ∧ K σ'
  | [], E, σ, hs, h => ⟨E, σ, hs, h⟩
  | g :: l, E, σ, hs, h => by
    cases g with
    | tot s =>
      simp only [Sx.ghosts] at h
      split at h
      · rename_i nl n sz f ht
        obtain ⟨f2, he, h⟩ := h
        rw [hD] at he
        exact StY.ghosts hD l (hs.tot ht he) h
      · exact h.elim
    | freeze s =>
      simp only [Sx.ghosts] at h
      obtain ⟨hp, h⟩ := h
      split at h
      · rename_i σ1 h1
        obtain ⟨E1, hs1⟩ := hs.freeze h1
        exact StY.ghosts hD l hs1 h
      · exact h.elim
    | attach s e =>
      simp only [Sx.ghosts] at h
      obtain ⟨hp, h⟩ := h
      split at h
      · rename_i σ1 h1
        obtain ⟨E1, hs1⟩ := hs.attach h1
        exact StY.ghosts hD l hs1 h
      · exact h.elim
    | hold s k e =>
      simp only [Sx.ghosts] at h
      obtain ⟨hp, h⟩ := h
      split at h
      · rename_i σ1 h1
        obtain ⟨E1, hs1⟩ := hs.hold h1
        exact StY.ghosts hD l hs1 h
      · exact h.elim
    | own s e =>
      simp only [Sx.ghosts] at h
      obtain ⟨hp, h⟩ := h
      split at h
      · rename_i σ1 h1
        obtain ⟨E1, hs1⟩ := hs.own h1
        exact StY.ghosts hD l hs1 h
      · exact h.elim
    | share s =>
      simp only [Sx.ghosts] at h
      obtain ⟨hp, h⟩ := h
      split at h
      · rename_i σ1 h1
        obtain ⟨E1, hs1⟩ := hs.share hD hp h1
        exact StY.ghosts hD l hs1 h
      · exact h.elim
    | bld s e =>
      simp only [Sx.ghosts] at h
      obtain ⟨hp, h⟩ := h
      split at h
      · rename_i σ1 h1
        obtain ⟨E1, hs1⟩ := hs.bld h1
        exact StY.ghosts hD l hs1 h
      · exact h.elim

theorem StY.ghostK {cx : Cx} (hD : cx.D = dn) {B : Bs} {N : Nat} {E : Env} {a : Act} {w : World} {id : Nat} {σ : Sy} {K : Sy → Prop} (hs : StY B N E a w σ) (h : Sx.ghostK cx id σ K) : ∃ E' σ', StY B N E' a w σ' ∧ K σ' := by
  unfold Sx.ghostK at h
  split at h
  · exact ⟨E, σ, hs, h⟩
  · exact hs.ghosts hD _ h

end Go.Sx
/- Bodies. -/
namespace Go.Sx
open Go

section
variable {P : Program} {cx : Cx}

def exK (K : Ex → Sy → Prop) (σ : Sy) : Exit → Prop
  | .normal => K .normal σ
  | .exit i => K (.exit i) σ
  | .goto l => K (.goto l) σ
  | .ret => K .ret σ
  | _ => False

def exQ (B : Bs) (N : Nat) (K : Ex → Sy → Prop) (e : Exit) (a : Act) (w : World) : Prop := ∃ E σ, StY B N E a w σ ∧ exK K σ e

/-- In whatever order. (Proved in the next part.) -/
def DrawOk (P : Program) : Prop := ∀ (gl : List (Nat × SV)) (id : Nat) (ops : Array Oper) (B : Bs) (N : Nat) (σ σ' : Sy) (rs : List (Option (Sy × List Nat × Out))), glOk B gl → Runs P gl ops.toList ops.toList σ rs σ' → edgesOk ops.toList 0 = true →
  indep ops.toList (befores ops.toList []) ops.toList (rs.map fpR) 0 = true → ∀ (Q : Exit → Act → World → Prop) (E : Env) (a : Act) (w : World), StY B N E a w σ → (∀ E' a' w', StY B N E' a' w' σ' → Q .normal a' w') → (Code.region id ops true).wp P Q a w

theorem exists_min {p : Nat → Prop} (h : ∃ n, p n) : ∃ n, p n ∧ ∀ m, p m → n ≤ m := by
  obtain ⟨n, hn⟩ := h
  induction n using Nat.strongRecOn with
  | _ n ih =>
    by_cases hm : ∃ m, m < n ∧ p m
    · obtain ⟨m, h1, h2⟩ := hm; exact ih m h1 h2
    · exact ⟨n, hn, fun m h => Nat.le_of_not_lt fun hlt => hm ⟨m, hlt, h⟩⟩

/-- A loop with a measure that need not be read off the frame. -/
theorem wp_loopN {c : Code} {Q : Exit → Act → World → Prop} {a : Act} {w : World} (R : Nat → Act → World → Prop) (h0 : ∃ n, R n a w)
    (round : ∀ n a w, R n a w → c.wp P (Exit.then (fun a' w' => ∃ n', n' < n ∧ R n' a' w') Q) a w) : (Code.loop c).wp P Q a w := by
  classical
  let μ : Act → World → Nat := fun a w => if h : ∃ n, R n a w then Classical.choose (exists_min h) else 0
  have hμ : ∀ a w, (∃ n, R n a w) → R (μ a w) a w ∧ ∀ m, R m a w → μ a w ≤ m := by
    intro a w h
    have : μ a w = Classical.choose (exists_min h) := by simp only [μ]; rw [dif_pos h]
    rw [this]
    exact Classical.choose_spec (exists_min h)
  refine wp_loop (fun a w => ∃ n, R n a w) μ h0 fun a w hI => ?_
  obtain ⟨h1, h2⟩ := hμ a w hI
  refine wp_mono (round _ a w h1) fun e a' w' hq => ?_
  cases e with
  | normal =>
    obtain ⟨n', hlt, hr⟩ := hq
    exact ⟨⟨n', hr⟩, Nat.lt_of_le_of_lt ((hμ a' w' ⟨n', hr⟩).2 n' hr) hlt⟩
  | _ => exact hq

/-! ### what is kept at a loop's head -/

def cutE (n : Nat) (E : Env) : Env := ⟨fun h => if h < n then E.β h else none, fun h => if h < n then E.τ h else none, fun b => (E.O b).bind fun h => if h < n then some h else none, fun h => if h < n then E.κ h else none, fun h => if h < n then E.ζ h else none, E.I⟩

theorem belowL_iff (n : Nat) : ∀ (cs : List SV), belowV.belowL n cs = true ↔ ∀ c ∈ cs, belowV n c = true
  | [] => by simp [belowV.belowL]
  | c :: cs => by simp [belowV.belowL, belowL_iff n cs]

theorem Rel.cut {E : Env} {w : World} {n : Nat} {s : SV} {v : Value} (h : Rel E w s v) (hb : belowV n s = true) : Rel (cutE n E) w s v := by
  induction h with
  | ro h => exact .ro h
  | @ptr h off b v hb' hv =>
    simp only [belowV, Nat.blt_eq] at hb
    exact .ptr (by simp [cutE, hb]; exact hb') hv
  | @gsl nl m sz f h v hr ht =>
    simp only [belowV, Nat.blt_eq] at hb
    obtain ⟨a, k, c, t1, t2⟩ := ht
    exact .gsl hr ⟨a, k, c, by simp [cutE, hb]; exact t1, t2⟩
  | mrow hb' hm hv =>
    simp only [belowV, Nat.blt_eq] at hb
    exact .mrow (by simp [cutE, hb]; exact hb') (by simp [cutE, hb]; exact hm) hv
  | mptr hb' hz hv =>
    simp only [belowV, Nat.blt_eq] at hb
    exact .mptr (by simp [cutE, hb]; exact hb') (by simp [cutE, hb]; exact hz) hv
  | osl ht hk =>
    simp only [belowV, Nat.blt_eq] at hb
    obtain ⟨a, k, c, t1, t2⟩ := hk
    exact .osl ht ⟨a, k, c, by simp [cutE, hb]; exact t1, t2⟩
  | optr hv ho =>
    simp only [belowV, Nat.blt_eq] at hb
    obtain ⟨a, k, c, sz, t1, t2, t3⟩ := ho
    exact .optr hv ⟨a, k, c, sz, by simp [cutE, hb]; exact t1, by simp [cutE, hb]; exact t2, t3⟩
  | agg hl _ ih =>
    simp only [belowV] at hb
    exact .agg hl fun i s v h1 h2 => ih i s v h1 h2 ((belowL_iff n _).1 hb s (List.mem_of_getElem? h1))
  | tup hl _ ih =>
    simp only [belowV] at hb
    exact .tup hl fun i s v h1 h2 => ih i s v h1 h2 ((belowL_iff n _).1 hb s (List.mem_of_getElem? h1))
  | clo hl _ ih =>
    simp only [belowV] at hb
    exact .clo hl fun i s v h1 h2 => ih i s v h1 h2 ((belowL_iff n _).1 hb s (List.mem_of_getElem? h1))

theorem belowH_get {n : Nat} : ∀ {ls : List Hl}, belowH n ls = true → ∀ {i : Nat} {ty : TypeId} {cs : List SV}, ls[i]? = some (.blk ty cs) → ∀ c ∈ cs, belowV n c = true
  | [], _, i, ty, cs, h => by simp at h
  | l :: ls, hp, i, ty, cs, h => by
    cases i with
    | zero =>
      simp at h
      subst h
      simp only [belowH, Bool.and_eq_true, belowV] at hp
      exact (belowL_iff n cs).1 hp.1
    | succ i =>
      simp at h
      cases l <;> simp only [belowH, Bool.and_eq_true] at hp <;> first | exact belowH_get hp h | exact belowH_get hp.2 h

theorem headH_get (D : Dn) : ∀ (ls : List Hl) (i : Nat), (headH D ls)[i]? = (ls[i]?).map fun l => match l with
    | .blk ty cs => .blk ty (norm.normL D cs)
    | .tail ty n sz => .tail ty (.a (D.i n)) sz
    | .row ty n sz f => .row ty (.a (D.i n)) sz f
    | .own ty n sz gr f => .own ty (.a (D.i n)) sz gr f
    | l => l
  | [], i => by simp [headH]
  | l :: ls, i => by
    cases i with
    | zero => cases l <;> simp [headH]
    | succ i => cases l <;> simp [headH, headH_get D ls i]

theorem len_headH (D : Dn) : ∀ (ls : List Hl), (headH D ls).length = ls.length
  | [] => rfl
  | l :: ls => by cases l <;> simp [headH, len_headH D ls]

theorem getO_mkfr : ∀ (l : List (Nat × Option SV)) (fr : List (Option G)) (s : Nat) (g : G), (∀ s, getO fr s = none) → getO (mkfr l fr) s = some g → g.tg = [] ∧ g.gt = none ∧ g.gf = none ∧ ∃ v, (s, some v) ∈ l ∧ g.v = v := by
  have key : ∀ (l : List (Nat × Option SV)) (fr : List (Option G)) (s : Nat) (g : G), getO (mkfr l fr) s = some g → getO fr s = some g ∨ (g.tg = [] ∧ g.gt = none ∧ g.gf = none ∧ ∃ v, (s, some v) ∈ l ∧ g.v = v) := by
    intro l
    induction l with
    | nil => intro fr s g h; exact .inl h
    | cons p l ih =>
      obtain ⟨i, v⟩ := p
      intro fr s g h
      rcases ih _ s g h with h | ⟨h1, h2, h3, v', h4, h5⟩
      · rw [getO_set] at h
        split at h
        · rename_i e
          cases v with
          | none => cases h
          | some v => cases h; exact .inr ⟨rfl, rfl, rfl, v, by rw [e.1]; exact List.mem_cons_self .., rfl⟩
        · exact .inl h
      · exact .inr ⟨h1, h2, h3, v', List.mem_cons_of_mem _ h4, h5⟩
  intro l fr s g hfr h
  rcases key l fr s g h with h | h
  · rw [hfr] at h; cases h
  · exact h

theorem getO_blank {α : Type} : ∀ (l : List α) (s : Nat), getO (blank l) s = none
  | [], s => by simp [blank, getO]
  | _ :: l, 0 => rfl
  | _ :: l, s + 1 => getO_blank l s
theorem len_blank {α : Type} : ∀ (l : List α), (blank l).length = l.length
  | [] => rfl
  | _ :: l => by simp [blank, len_blank l]
theorem len_mkfr : ∀ (l : List (Nat × Option SV)) (fr : List (Option G)), (mkfr l fr).length = fr.length
  | [], _ => rfl
  | (i, v) :: l, fr => by simp [mkfr, len_mkfr l, setN_eq]

theorem mem_zip_keep {D : Dn} {n : Nat} {fr : List (Option G)} {s : Nat} {v : SV} : ∀ (keep : List Nat), (s, some v) ∈ zipN keep (keepV D n fr keep) → ∃ g, getO fr s = some g ∧ g.tg = [] ∧ belowV n g.v = true ∧ v = norm D g.v
  | [], h => by simp [zipN] at h
  | i :: keep, h => by
    simp only [keepV, zipN, List.mem_cons] at h
    rcases h with h | h
    · simp only [Prod.mk.injEq] at h
      obtain ⟨rfl, h⟩ := h
      split at h
      · rename_i gt gf v' hg
        split at h
        · rename_i hb
          cases h
          exact ⟨_, hg, rfl, hb, rfl⟩
        · cases h
      · cases h
    · exact mem_zip_keep keep h

/-- The state at a loop's head. -/
theorem StY.head {B : Bs} {N : Nat} {E : Env} {a : Act} {w : World} {σ : Sy} (h : StY B N E a w σ) {n : Nat} {keep : List Nat} {fr0 : List (Option G)} (hfr : fr0.length = N) (hb : belowH n (takeN n σ.hp) = true) (hn : ∀ h, B.β0 h ≠ none ∨ B.τ0 h ≠ none ∨ B.ζ0 h ≠ none → h < n) :
    StY B N (cutE n E) a w ⟨mkfr (zipN keep (keepV dn n σ.fr keep)) (blank fr0), headH dn (takeN n σ.hp), []⟩ := by
  have hbase := h.st.base
  refine ⟨⟨⟨hbase.os, hbase.tape, hbase.output, hbase.size, hbase.old, hbase.I0, hbase.Ibd, hbase.Inew, fun b k hO => ?_, ⟨fun k b hk => by simp only [cutE, if_pos (hn k (.inl (by rw [hk]; simp)))]; exact hbase.β0.β k b hk, fun k v hk => by simp only [cutE, if_pos (hn k (.inr (.inl (by rw [hk]; simp))))]; exact hbase.β0.τ k v hk, fun k z hk => by simp only [cutE, if_pos (hn k (.inr (.inr (by rw [hk]; simp))))]; exact hbase.β0.ζ k z hk⟩⟩, fun k => ?_, fun s => ?_, h.st.size, h.st.defers⟩, by rw [len_mkfr, len_blank]; exact hfr, ⟨fun s g hs => ?_, fun s g i hs hi => ?_, fun s g i hs hi => ?_⟩, fun k hk => ?_⟩
  · have hO : (E.O b).bind (fun h => if h < n then some h else none) = some k := hO
    cases hEO : E.O b with
    | none => rw [hEO] at hO; cases hO
    | some k' =>
      rw [hEO] at hO
      simp only [Option.bind_some] at hO
      split at hO
      · cases hO; exact hbase.Obd b k hEO
      · cases hO
  · rw [takeN_eq] at hb ⊢
    simp only [hfOf, nth_eq, headH_get]
    by_cases hk : k < n
    · have hkk := h.st.heap k
      simp only [hfOf, nth_eq] at hkk
      rw [List.getElem?_take, if_pos hk]
      have hO : ∀ b, E.O b = some k → (cutE n E).O b = some k := fun b hb => by simp [cutE, hb, hk]
      cases hl : σ.hp[k]? with
      | none =>
        rw [hl] at hkk
        simp only [Option.map_none, Option.getD_none]
        obtain ⟨q1, q2, q3, q4⟩ := hkk
        exact ⟨by simp only [cutE, if_pos hk]; exact q1, by simp only [cutE, if_pos hk]; exact q2, by simp only [cutE, if_pos hk]; exact q3, by simp only [cutE, if_pos hk]; exact q4⟩
      | some l =>
        rw [hl] at hkk
        simp only [Option.map_some, Option.getD_some] at hkk ⊢
        cases l with
        | fresh =>
          obtain ⟨q1, q2, q3, q4⟩ := hkk
          exact ⟨by simp only [cutE, if_pos hk]; exact q1, by simp only [cutE, if_pos hk]; exact q2, by simp only [cutE, if_pos hk]; exact q3, by simp only [cutE, if_pos hk]; exact q4⟩
        | gone => trivial
        | blk ty cs =>
          obtain ⟨b, C, k1, k2, k3, k4, k5, k6⟩ := hkk.blk_inv
          have hbl : ∀ c ∈ cs, belowV n c = true := belowH_get hb (i := k) (by rw [List.getElem?_take, if_pos hk]; exact hl)
          have hn : RelL (cutE n E) w (norm.normL dn cs) C.toList := by
            rw [normL_eq]
            exact k4.map _ fun s v hs h => (h.cut (hbl s hs)).norm
          exact ⟨b, C, by simp only [cutE, if_pos hk]; exact k1, hO b k2, k3, by have := hn.1; simpa using this.symm, fun i s v p q => hn.2 i s v p (by simpa using q), fun v hv => k5 v (by simpa using hv), k6⟩
        | tail ty m sz =>
          obtain ⟨v, m', xs, k1, k2, k3, k4, k5⟩ := hkk
          exact ⟨v, m', xs, by simp only [cutE, if_pos hk]; exact k1, k2, k3, k4, fun b hb => ⟨hO b (k5 b hb).1, (k5 b hb).2⟩⟩
        | row ty m sz f =>
          obtain ⟨b, C, m', k1, k2, kz, k3, k4, k5, k6, k7, k8⟩ := hkk
          exact ⟨b, C, m', by simp only [cutE, if_pos hk]; exact k1, by simp only [cutE, if_pos hk]; exact k2, by simp only [cutE, if_pos hk]; exact kz, hO b k3, k4, k5, k6, k7, k8⟩
        | own ty m sz gr f =>
          obtain ⟨v, m', xs, k1, kz, k2, k3, k4, k5, k6⟩ := hkk
          exact ⟨v, m', xs, by simp only [cutE, if_pos hk]; exact k1, by simp only [cutE, if_pos hk]; exact kz, k2, k3, k4, k5, fun b hb => ⟨hO b (k6 b hb).1, (k6 b hb).2⟩⟩
        | bld T e s =>
          obtain ⟨b, p, v, k1, k2, k3, k4, k5, k6, k7, k8⟩ := hkk
          exact ⟨b, p, v, by simp only [cutE, if_pos hk]; exact k1, hO b k2, k3, k4, k5, k6, k7, fun g hg => ⟨hO g (k8 g hg).1, (k8 g hg).2⟩⟩
    · rw [List.getElem?_take, if_neg hk]
      simp only [Option.map_none, Option.getD_none]
      exact ⟨by simp [cutE, hk], by simp [cutE, hk], by simp [cutE, hk], by simp [cutE, hk]⟩
  · simp only [ffOf]
    cases hs : getO (mkfr (zipN keep (keepV dn n σ.fr keep)) (blank fr0)) s with
    | none => trivial
    | some g =>
      obtain ⟨g1, _, _, v, g4, g5⟩ := getO_mkfr _ _ s g (getO_blank fr0) hs
      obtain ⟨g', q1, q2, q3, q4⟩ := mem_zip_keep keep g4
      have hsl := h.st.slot s
      simp only [ffOf, q1, Option.map_some, SlotOk, q2, condsOf, List.filterMap_nil, allT] at hsl
      obtain ⟨s1, s2, _⟩ := hsl
      simp only [Option.map_some, SlotOk, g1, condsOf, List.filterMap_nil, allT]
      refine ⟨s1, fun _ => ?_, fun h => absurd trivial h⟩
      rw [g5, q4]
      exact ((s2 trivial).cut q3).norm
  · obtain ⟨g1, _⟩ := getO_mkfr _ _ s g (getO_blank fr0) hs
    rw [g1]; simp
  · obtain ⟨_, g2, _⟩ := getO_mkfr _ _ s g (getO_blank fr0) hs
    rw [g2] at hi; cases hi
  · obtain ⟨_, _, g3, _⟩ := getO_mkfr _ _ s g (getO_blank fr0) hs
    rw [g3] at hi; cases hi
  · rw [len_headH, takeN_eq, List.length_take]
    have h1 := hn k hk
    have h2 := h.ge k hk
    omega

theorem takeN_all {α : Type} (l : List α) : takeN (lenN l) l = l := by rw [takeN_eq, lenN_eq, List.take_length]

theorem StY.know {B : Bs} {N : Nat} {E : Env} {a : Act} {w : World} {σ : Sy} (h : StY B N E a w σ) {c : Operand} {bt : BT} {b : Bool} (hr : rd cx σ [] c = some (.bool bt)) (hv : a.eval c = .bool bt.den) (hb : bt.den = b) : StY B N E a w (know σ c b) := by
  cases c with
  | tmp s =>
    simp only [rd] at hr
    split at hr
    · rename_i g hg
      have hlt : s < σ.fr.length := by
        rcases Nat.lt_or_ge s σ.fr.length with h | h
        · exact h
        · rw [getO_eq, List.getElem?_eq_none h] at hg; cases hg
      have hget : ∀ k, getO (setN σ.fr s (some ⟨[], none, none, .bool (.l b)⟩)) k = if k = s then some ⟨[], none, none, .bool (.l b)⟩ else getO σ.fr k := fun k => by
        rw [getO_set]
        by_cases e : k = s
        · rw [if_pos ⟨e, hlt⟩, if_pos e]
        · rw [if_neg (fun h => e h.1), if_neg e]
      refine ⟨⟨h.st.base, h.st.heap, fun k => ?_, h.st.size, h.st.defers⟩, by show (setN σ.fr s _).length = N; rw [setN_eq, List.length_set]; exact h.len, ⟨fun k g' hk i hi => ?_, fun k g' i hk hi => ?_, fun k g' i hk hi => ?_⟩, h.ge⟩
      · simp only [ffOf, Sx.know, hget]
        by_cases e : k = s
        · subst e
          rw [if_pos rfl]
          have hv : a.tmps.getD k undef = .bool bt.den := hv
          refine ⟨by rw [h.st.size, ← h.len]; exact hlt, fun _ => ?_, fun hn => absurd trivial hn⟩
          rw [hv]
          exact .bool hb.symm
        · rw [if_neg e]
          exact h.st.slot k
      · have hk : getO (setN σ.fr s (some ⟨[], none, none, .bool (.l b)⟩)) k = some g' := hk
        rw [hget] at hk
        split at hk
        · cases hk; cases hi
        · exact h.wf.tg k g' hk i hi
      · have hk : getO (setN σ.fr s (some ⟨[], none, none, .bool (.l b)⟩)) k = some g' := hk
        rw [hget] at hk
        split at hk
        · cases hk; cases hi
        · exact h.wf.gt k g' i hk hi
      · have hk : getO (setN σ.fr s (some ⟨[], none, none, .bool (.l b)⟩)) k = some g' := hk
        rw [hget] at hk
        split at hk
        · cases hk; cases hi
        · exact h.wf.gf k g' i hk hi
    · cases hr
  | const _ => exact h
  | global _ => exact h
  | func _ => exact h

/-- A body does what the executor says. -/
theorem exec_sound (hd : DrawOk P) (hc : CxOk P cx) (htab : TabOk P cx.gl cx.tab) {B : Bs} {N : Nat} (hg : glOk B cx.gl) : ∀ (c : Code) (σ : Sy) (K : Ex → Sy → Prop), exec cx c σ K → ∀ (E : Env) (a : Act) (w : World), StY B N E a w σ → c.wp P (exQ B N K) a w
  | .skip, σ, K, h, E, a, w, hs => wp_skip ⟨E, σ, hs, h⟩
  | .region id ops draw, σ, K, h, E, a, w, hs => by
    obtain ⟨rs, σ', h1, h2, h3⟩ := stepOps_runs hc htab (ops := ops) rfl ops.toList [] σ _ hs.wf h
    simp only [List.nil_append] at h3
    cases draw with
    | true =>
      simp only [if_true] at h3
      split at h3
      · obtain ⟨⟨hb⟩, h3⟩ := h3
        simp only [Bool.and_eq_true] at hb
        exact hd cx.gl id ops B N σ σ' rs hg h1 hb.1 hb.2 _ E a w hs fun E' a' w' hs' => (StY.tidy hs').ghostK hc.D h3
      · split at h3
        · rename_i hb
          simp only [Bool.and_eq_true] at hb
          exact hd cx.gl id ops B N σ σ' rs hg h1 hb.1 hb.2 _ E a w hs fun E' a' w' hs' => (StY.tidy hs').ghostK hc.D h3
        · exact h3.elim
    | false =>
      simp only [Bool.false_eq_true, if_false] at h3
      exact wpList_region (runs_wpList rfl hg h1 E a w hs fun E' a' w' hs' => (StY.tidy hs').ghostK hc.D h3)
  | .seq x y, σ, K, h, E, a, w, hs => by
    refine wp_seq (wp_mono (exec_sound hd hc htab hg x σ _ h E a w hs) fun e a' w' hq => ?_)
    obtain ⟨E', σ', hs', hk⟩ := hq
    cases e with
    | normal => exact exec_sound hd hc htab hg y σ' K hk E' a' w' hs'
    | exit i => exact ⟨E', σ', hs', hk⟩
    | goto l => exact ⟨E', σ', hs', hk⟩
    | ret => exact ⟨E', σ', hs', hk⟩
    | _ => exact hk.elim
  | .cond c x y, σ, K, h, E, a, w, hs => by
    simp only [exec] at h
    have hv : ∀ b, rd cx σ [] c = some (.bool b) → a.eval c = .bool b.den := fun b hb => (rd_sound hb hg hs.st (fun _ _ => rfl) trivial).bool_inv
    split at h
    · rename_i hb
      exact wp_cond (t := true) (hv _ hb) (exec_sound hd hc htab hg x σ K h E a w hs)
    · rename_i hb
      exact wp_cond (t := false) (hv _ hb) (exec_sound hd hc htab hg y σ K h E a w hs)
    · rename_i b _ _ hb
      rw [hc.D] at h
      refine wp_cond_split (hv _ hb) (fun e => ?_) (fun e => ?_)
      · exact exec_sound hd hc htab hg x _ K (h.1 e) E a w (hs.know hb (hv _ hb) e)
      · exact exec_sound hd hc htab hg y _ K (h.2 e) E a w (hs.know hb (hv _ hb) e)
    · exact h.elim
  | .block id b, σ, K, h, E, a, w, hs => by
    refine wp_block (wp_mono (exec_sound hd hc htab hg b σ _ h E a w hs) fun e a' w' hq => ?_)
    obtain ⟨E', σ', hs', hk⟩ := hq
    cases e with
    | normal => exact ⟨E', σ', hs', hk⟩
    | exit i =>
      simp only [Exit.inBlock]
      simp only [exK] at hk
      by_cases e : i = id
      · rw [if_pos e]
        rw [if_pos (by simpa using e)] at hk
        exact ⟨E', σ', hs', hk⟩
      · rw [if_neg e]
        rw [if_neg (by simpa using e)] at hk
        exact ⟨E', σ', hs', hk⟩
    | goto l => exact ⟨E', σ', hs', hk⟩
    | ret => exact ⟨E', σ', hs', hk⟩
    | _ => exact hk.elim
  | .loop b, σ, K, h, E, a, w, hs => by
    obtain ⟨keep, J, ⟨hb0, m0, hJ0⟩, hround⟩ := h
    rw [hc.D] at hJ0 hround
    refine wp_loopN (fun m a w => ∃ vs hp E, J m vs hp ∧ StY B N E a w ⟨mkfr (zipN keep vs) (blank σ.fr), hp, []⟩) ⟨m0, _, _, cutE (lenN σ.hp) E, hJ0, ?_⟩ ?_
    · have := hs.head (n := lenN σ.hp) (keep := keep) hs.len (by rw [takeN_all]; exact hb0) (by rw [lenN_eq]; exact hs.ge)
      rw [takeN_all] at this
      exact this
    · rintro m a' w' ⟨vs, hp, E', hJ, hs'⟩
      refine wp_mono (exec_sound hd hc htab hg b _ _ (hround m vs hp hJ) E' a' w' hs') fun e a2 w2 hq => ?_
      obtain ⟨E2, σ2, hs2, hk⟩ := hq
      cases e with
      | normal =>
        obtain ⟨hb2, m2, hlt, hJ2⟩ := hk
        exact ⟨m2, hlt, _, _, _, hJ2, hs2.head hs.len hb2 (by rw [lenN_eq]; exact hs.ge)⟩
      | exit i => exact ⟨E2, σ2, hs2, hk⟩
      | goto l => exact ⟨E2, σ2, hs2, hk⟩
      | ret => exact ⟨E2, σ2, hs2, hk⟩
      | _ => exact hk.elim
  | .exit id, σ, K, h, E, a, w, hs => wp_exit ⟨E, σ, hs, h⟩
  | .ret, σ, K, h, E, a, w, hs => wp_ret ⟨E, σ, hs, h⟩
  | .rangeFunc .., _, _, h, _, _, _, _ => h.elim
  | .scope c, σ, K, h, E, a, w, hs => by
    refine wp_scope_straight (wp_mono (exec_sound hd hc htab hg c σ _ h E a w hs) fun e a' w' hq => ?_)
    obtain ⟨E', σ', hs', hk⟩ := hq
    cases e with
    | normal => exact ⟨E', σ', hs', hk⟩
    | exit i => exact ⟨E', σ', hs', hk⟩
    | goto l => exact hk.elim
    | ret => exact ⟨E', σ', hs', hk⟩
    | _ => exact hk.elim
  | .label _, σ, K, h, E, a, w, hs => wp_label ⟨E, σ, hs, h⟩
  | .goto _, σ, K, h, E, a, w, hs => wp_goto ⟨E, σ, hs, h⟩
  | .refuse _, _, _, h, _, _, _, _ => h.elim

end
end Go.Sx
/- Functions. -/
namespace Go.Sx
open Go

def LeV (s s' : SV) : Prop := ∀ (E : Env) (w : World) (v : Value), Rel E w s v → Rel E w s' v
def LeH (ls ls' : List Hl) : Prop := ∀ (h : Nat) (E : Env) (w : World), HOk E w h (hfOf ls h) → HOk E w h (hfOf ls' h)

/-- The end of a body: what it hands back, and what it leaves, is what the contract says. -/
structure Fin (r' r : SV) (ls'' ls' : List Hl) : Prop where
  v : LeV r' r
  h : LeH ls'' ls'
  len : ls'.length ≤ ls''.length

theorem LeV.refl (s : SV) : LeV s s := fun _ _ _ h => h
theorem LeH.refl (ls : List Hl) : LeH ls ls := fun _ _ _ h => h

section
variable {P : Program} {cx : Cx}

def resRow (tmps : Array Value) : ResultVar → Sem Value
  | .tmp t => pure (tmps.getD t undef)
  | .cell ad t => do loadVar t (← asAddr (tmps.getD ad undef))

theorem results_eq (fn : Func) (tmps : Array Value) : results fn tmps = (do let vs ← fn.results.mapM (resRow tmps); pure (if h : vs.size = 1 then vs[0] else .tuple vs)) := by
  unfold results
  congr 1

/-- What a body's end asks. -/
theorem resVs_sound (hc : CxOk P cx) {B : Bs} {N : Nat} (hg : glOk B cx.gl) {E : Env} {a : Act} {w : World} {σ : Sy} (hs : StY B N E a w σ) : ∀ (rs : List ResultVar) (vs : List SV), resVs cx σ rs = some vs →
    ∃ us, (rs.mapM (resRow a.tmps)).run P w = .ok us w ∧ RelL E w vs us
  | [], vs, h => by simp [resVs] at h; subst h; exact ⟨[], rfl, .nil⟩
  | .tmp t :: rs, vs, h => by
    simp only [resVs] at h
    split at h
    · rename_i v vs' hv hvs
      cases h
      obtain ⟨us, h1, h2⟩ := resVs_sound hc hg hs rs vs' hvs
      have hr := rd_sound hv hg hs.st (fun _ _ => rfl) trivial
      exact ⟨a.tmps.getD t undef :: us, by simp only [List.mapM_cons, resRow, Sem.run_bind, Sem.run_pure, Result.andThen_ok, h1], .cons hr h2⟩
    · cases h
  | .cell ad t :: rs, vs, h => by
    simp only [resVs] at h
    split at h
    · rename_i hd off n vs' hv hn hvs
      split at h
      · rename_i ty cs hh
        split at h
        · rename_i hb
          split at h
          · rename_i v hp
            cases h
            rw [lenN_eq] at hb
            have hle := Nat.le_of_ble_eq_true hb
            rw [takeN_eq, dropN_eq] at hp
            obtain ⟨us, h1, h2⟩ := resVs_sound hc hg hs rs vs' hvs
            obtain ⟨b, hβ, hx⟩ := (rd_sound hv hg hs.st (fun _ _ => rfl) trivial).ptr_inv
            have hk := hs.st.heap hd
            rw [nth_hf hh] at hk
            obtain ⟨b', C, k1, _, k3, k4, _, _⟩ := hk.blk_inv
            obtain rfl : b = b' := Option.some.inj (hβ.symm.trans k1)
            obtain ⟨ti, hti, hsz⟩ := size?_ti hn
            have hsub := sub_RelL (off := off) (n := n) k4 rfl (fun _ _ _ => rfl)
            obtain ⟨p1, p2⟩ := pack_rel hp hsub
            have hlen : ((C.toList.drop off).take n).length = n := by rw [← hsub.1]; simp; omega
            have hrun := run_loadAt (hc.ti hti) (w := w) (b := b) (off := off) (vs := (C.toList.drop off).take n) (fun j v hj => by
              rw [List.getElem?_take] at hj
              split at hj
              · rw [List.getElem?_drop] at hj
                rw [cell_of_row w b (off + j) C ty (0, 0) k3]
                simpa using hj
              · cases hj) (by rw [hlen, hsz]) (isAgg?_eq hti) p1
            have hx : a.tmps.getD ad undef = .pointer (some ⟨b, off, none⟩) := hx
            have hl : (loadVar t ⟨b, off, none⟩).run P w = .ok (if isAgg? cx t then .agg ⟨(C.toList.drop off).take n⟩ else ((C.toList.drop off).take n).headD undef) w := by
              simpa only [Instr.loadAt, Instr.sureAddr, Sem.run_bind, Sem.run_pure, Result.andThen_ok] using hrun
            refine ⟨_ :: us, ?_, .cons p2 h2⟩
            have hrow : (resRow a.tmps (.cell ad t)).run P w = .ok (if isAgg? cx t then .agg ⟨(C.toList.drop off).take n⟩ else ((C.toList.drop off).take n).headD undef) w := by
              simp only [resRow, hx, asAddr, Sem.run_bind, Sem.run_pure, Result.andThen_ok, hl]
            simp only [List.mapM_cons, Sem.run_bind, hrow, Result.andThen_ok, h1, Sem.run_pure]
          · cases h
        · cases h
      · cases h
    · cases h

theorem pack1_rel {E : Env} {w : World} {vs : List SV} {us : List Value} (h : RelL E w vs us) : Rel E w (pack1 vs) (if h : (⟨us⟩ : Array Value).size = 1 then (⟨us⟩ : Array Value)[0] else .tuple ⟨us⟩) := by
  match vs, us, h with
  | [], [], h => exact .tup h.1 h.2
  | [v], [u], h => exact h.2 0 v u rfl rfl
  | _ :: _ :: _, _ :: _ :: _, h =>
    rw [dif_neg (by simp)]
    exact .tup h.1 h.2
  | [], _ :: _, h => exact absurd h.1 (by simp)
  | _ :: _, [], h => exact absurd h.1 (by simp)
  | [_], _ :: _ :: _, h => exact absurd h.1 (by simp)
  | _ :: _ :: _, [_], h => exact absurd h.1 (by simp)

theorem HOk.normH {E : Env} {w : World} {hp : List Hl} {h : Nat} (hk : HOk E w h (hfOf hp h)) : HOk E w h (hfOf (normH dn hp) h) := by
  simp only [hfOf, nth_eq, normH_get] at hk ⊢
  cases hl : hp[h]? with
  | none => rw [hl] at hk; exact hk
  | some l =>
    rw [hl] at hk
    cases l with
    | blk ty cs =>
      simp only [Option.map_some, Option.getD_some] at hk ⊢
      obtain ⟨b, C, k1, k2, k3, k4, k5, k6⟩ := hk.blk_inv
      have hn : RelL E w (loose.looseL (norm.normL dn cs)) C.toList := by
        rw [looseL_eq, normL_eq]
        exact (k4.map _ fun s v _ h => h.norm).map _ fun s v _ h => h.loose
      exact ⟨b, C, k1, k2, k3, by have := hn.1; simpa using this.symm, fun i s v p q => hn.2 i s v p (by simpa using q), fun v hv => k5 v (by simpa using hv), k6⟩
    | _ => exact hk

theorem getO_start (ntmps : Nat) (args : List SV) (s : Nat) (g : G) (h : getO (startFr ntmps args) s = some g) : ∃ v, args[s]? = some v ∧ g = ⟨[], none, none, v⟩ := by
  rw [getO_eq] at h
  unfold startFr at h
  by_cases hlt : s < args.length
  · rw [List.getElem?_append_left (by simpa using hlt)] at h
    simp [hlt] at h
    exact ⟨args[s], by simp [hlt], h.symm⟩
  · rw [List.getElem?_append_right (by simp; omega)] at h
    rw [List.getElem?_replicate] at h
    split at h <;> simp at h

theorem ownTo_rel {E E' : Env} {w : World} {h k : Nat} (hI : E'.I = E.I) (hτ : E'.τ k = E.τ h) : ∀ {vs : List SV} {us : List Value}, ownOk h vs = true → RelL E w vs us → RelL E' w (ownTo h k vs) us
  | [], us, _, hr => ⟨hr.1, by simp [ownTo]⟩
  | v :: vs, [], _, hr => absurd hr.1 (by simp)
  | v :: vs, u :: us, ho, hr => by
    have htl : RelL E w vs us := ⟨by have := hr.1; simpa using this, fun i s v a b => hr.2 (i + 1) s v a b⟩
    have hhd := hr.2 0 v u rfl rfl
    by_cases hv : ∃ nl n h', v = .osl nl n h'
    · obtain ⟨nl, n, h', rfl⟩ := hv
      simp only [ownOk, Bool.and_eq_true, beq_iff_eq] at ho
      obtain ⟨rfl, ho⟩ := ho
      obtain ⟨ht, a, m, c, t1, t2⟩ := hhd.osl_inv
      exact .cons (.osl ht ⟨a, m, c, by rw [hτ]; exact t1, t2⟩) (ownTo_rel hI hτ ho htl)
    · have h1 : ownOk h (v :: vs) = (plainV v && ownOk h vs) := by
        cases v <;> first | rfl | exact absurd ⟨_, _, _, rfl⟩ hv
      have h2 : ownTo h k (v :: vs) = v :: ownTo h k vs := by
        cases v <;> first | rfl | exact absurd ⟨_, _, _, rfl⟩ hv
      rw [h1, Bool.and_eq_true] at ho
      rw [h2]
      exact .cons (hhd.plain hI ho.1) (ownTo_rel hI hτ ho.2 htl)

/-- A body's end. -/
theorem end_sound (hc : CxOk P cx) {B : Bs} {N : Nat} (hg : glOk B cx.gl) {E' : Env} {a' : Act} {w' : World} {σ' : Sy} (hs' : StY B N E' a' w' σ') {fn : Func} {m : Nat} (hdom : ∀ h, B.β0 h ≠ none ∨ B.τ0 h ≠ none ∨ B.ζ0 h ≠ none → h < m) {r : SV} {ls' : List Hl} (hk : match resVs cx σ' fn.results.toList with
        | some vs => endK cx m vs σ' fun r' ls'' => Fin r' r ls'' ls'
        | none => False) : a'.defers = [] ∧ ∃ v, (results fn a'.tmps).run P w' = .ok v w' ∧ ∃ v_1 E', Ending.returned v = .returned v_1 ∧ Base B E' w' ∧ (∀ h, h < ls'.length → HOk E' w' h (hfOf ls' h)) ∧ Rel E' w' r v_1 := by
  split at hk
  · rename_i vs hvs
    obtain ⟨us, u1, u2⟩ := resVs_sound hc hg hs' fn.results.toList vs hvs
    have hbase := hs'.st.base
    have hres : (results fn a'.tmps).run P w' = .ok (if h : (⟨us⟩ : Array Value).size = 1 then (⟨us⟩ : Array Value)[0] else .tuple ⟨us⟩) w' := by
      rw [results_eq, Array.mapM_eq_mapM_toList]
      simp only [Sem.run_bind, Sem.run_map, u1, Result.andThen_ok, Sem.run_pure]
    unfold endK at hk
    rw [hc.D] at hk
    split at hk
    · obtain ⟨k1, k2, k3⟩ := hk
      refine ⟨hs'.st.defers, _, hres, _, E', rfl, hbase, fun h hlt => ?_, ?_⟩
      · refine k2 h E' w' ?_
        refine HOk.normH ?_
        have := hs'.st.heap h
        have hlt2 : h < m := by
          rw [len_normH, takeN_eq, List.length_take] at k3; omega
        simp only [hfOf, nth_eq, takeN_eq] at this ⊢
        rw [List.getElem?_take, if_pos hlt2]
        exact this
      · exact k1 E' w' _ (pack1_rel u2).norm.loose
    · rename_i h _
      split at hk
      · rename_i ty n sz gr f hcond hh
        simp only [Bool.and_eq_true] at hcond
        obtain ⟨⟨c1, c2⟩, c3⟩ := hcond
        have c1 := Nat.le_of_ble_eq_true c1
        obtain ⟨k1, k2, k3⟩ := hk
        have hm : m ≤ σ'.hp.length := by
          rw [nth_eq] at hh
          have := (List.getElem?_eq_some_iff.1 hh).1
          omega
        let O2 : Nat → Option Nat := fun b => (E'.O b).bind fun j => if j < m then some j else if j = h then some m else none
        let E2 : Env := ⟨fun k => if k < m then E'.β k else if k = m then E'.β h else none, fun k => if k < m then E'.τ k else if k = m then E'.τ h else none, O2, fun k => if k < m then E'.κ k else none, fun k => if k < m then E'.ζ k else if k = m then E'.ζ h else none, E'.I⟩
        have hbase2 : Base B E2 w' := by
          refine ⟨hbase.os, hbase.tape, hbase.output, hbase.size, hbase.old, hbase.I0, hbase.Ibd, hbase.Inew, fun b j hO => ?_, ⟨fun k b hk => ?_, fun k v hk => ?_, fun k z hk => ?_⟩⟩
          · have hO : (E'.O b).bind (fun j => if j < m then some j else if j = h then some m else none) = some j := hO
            cases hEO : E'.O b with
            | none => rw [hEO] at hO; cases hO
            | some q => exact hbase.Obd b q hEO
          · show (if k < m then E'.β k else if k = m then E'.β h else none) = some b
            rw [if_pos (hdom k (.inl (by rw [hk]; simp)))]; exact hbase.β0.β k b hk
          · show TauLe v (if k < m then E'.τ k else if k = m then E'.τ h else none)
            rw [if_pos (hdom k (.inr (.inl (by rw [hk]; simp))))]; exact hbase.β0.τ k v hk
          · show (if k < m then E'.ζ k else if k = m then E'.ζ h else none) = some z
            rw [if_pos (hdom k (.inr (.inr (by rw [hk]; simp))))]; exact hbase.β0.ζ k z hk
        have hO1 : ∀ b k, k < m → E'.O b = some k → O2 b = some k := fun b k hk hb => by simp [O2, hb, hk]
        have hO2 : ∀ b, E'.O b = some h → O2 b = some m := fun b hb => by
          simp only [O2, hb, Option.bind_some]
          rw [if_neg (by omega)]
          simp
        refine ⟨hs'.st.defers, _, hres, _, E2, rfl, hbase2, fun k hlt => ?_, ?_⟩
        · refine k2 k E2 w' ?_
          have hlen : (normH dn (takeN m σ'.hp ++ [.own ty n sz gr f])).length = m + 1 := by
            rw [len_normH, takeN_eq, List.length_append, List.length_take, Nat.min_eq_left hm]; rfl
          rw [hlen] at k3
          have htl : (takeN m σ'.hp).length = m := by rw [takeN_eq, List.length_take, Nat.min_eq_left hm]
          have hkk := hs'.st.heap
          by_cases hkm : k < m
          · have h1 : hfOf (normH dn (takeN m σ'.hp ++ [.own ty n sz gr f])) k = hfOf (normH dn (takeN m σ'.hp)) k := by
              simp only [hfOf, nth_eq, normH_get]
              rw [List.getElem?_append_left (by omega)]
            rw [h1]
            have h2 : HOk E' w' k (hfOf (normH dn (takeN m σ'.hp)) k) := by
              refine HOk.normH ?_
              have := hkk k
              simp only [hfOf, nth_eq, takeN_eq] at this ⊢
              rw [List.getElem?_take, if_pos hkm]
              exact this
            obtain ⟨l, hl⟩ : ∃ l, (normH dn (takeN m σ'.hp))[k]? = some l := ⟨_, List.getElem?_eq_getElem (by rw [len_normH]; omega)⟩
            have hle : hfOf (normH dn (takeN m σ'.hp)) k = l := by simp only [hfOf, nth_eq, hl, Option.getD_some]
            rw [hle] at h2 ⊢
            exact h2.move (plainH_get c3 hl) rfl (if_pos hkm) (if_pos hkm) (if_pos hkm) fun b hb => hO1 b k hkm hb
          · obtain rfl : k = m := by omega
            have h1 : hfOf (normH dn (takeN k σ'.hp ++ [.own ty n sz gr f])) k = .own ty (.a (dn.i n)) sz gr f := by
              simp only [hfOf, nth_eq, normH_get]
              rw [List.getElem?_append_right (by omega), htl, Nat.sub_self]
              rfl
            rw [h1]
            have h2 := hkk h
            rw [nth_hf hh] at h2
            have h3 : HOk E' w' h (.own ty (.a (dn.i n)) sz gr f) := h2
            refine h3.move trivial rfl ?_ ?_ ?_ hO2
            · show (if k < k then E'.β k else if k = k then E'.β h else none) = E'.β h
              rw [if_neg (by omega), if_pos rfl]
            · show (if k < k then E'.τ k else if k = k then E'.τ h else none) = E'.τ h
              rw [if_neg (by omega), if_pos rfl]
            · show (if k < k then E'.ζ k else if k = k then E'.ζ h else none) = E'.ζ h
              rw [if_neg (by omega), if_pos rfl]
        · have hτm : E2.τ m = E'.τ h := by
            show (if m < m then E'.τ m else if m = m then E'.τ h else none) = E'.τ h
            rw [if_neg (by omega), if_pos rfl]
          have hrel : RelL E2 w' (ownTo h m vs) us := ownTo_rel (E := E') (E' := E2) rfl hτm c2 u2
          exact k1 E2 w' _ (pack1_rel hrel).norm.loose
      · exact hk.elim
  · exact hk.elim

theorem start_sound {B : Bs} {E : Env} {w : World} {vals : List Value} {fn : Func} {as : List SV} {ls : List Hl} (hdom : ∀ h, B.β0 h ≠ none ∨ B.τ0 h ≠ none ∨ B.ζ0 h ≠ none → h < ls.length) (hb : Base B E w) (hh : ∀ h, HOk E w h (hfOf ls h)) (hr : RelL E w as vals) :
    StY B (startFr fn.ntmps as).length E { tmps := (⟨vals⟩ : Array Value) ++ Array.replicate (fn.ntmps - (⟨vals⟩ : Array Value).size) undef, defers := [] } w ⟨startFr fn.ntmps as, ls, []⟩ := by
  refine ⟨⟨hb, hh, fun s => ?_, ?_, rfl⟩, rfl, ⟨fun s g hs i hi => ?_, fun s g i hs hi => ?_, fun s g i hs hi => ?_⟩, hdom⟩
  · simp only [ffOf]
    cases hs : getO (startFr fn.ntmps as) s with
    | none => trivial
    | some g =>
      obtain ⟨v, hv, rfl⟩ := getO_start _ _ _ _ hs
      have hlt : s < as.length := (List.getElem?_eq_some_iff.1 hv).1
      have hlt2 : s < vals.length := by rw [← hr.1]; exact hlt
      have hget : ((⟨vals⟩ : Array Value) ++ Array.replicate (fn.ntmps - (⟨vals⟩ : Array Value).size) undef).getD s undef = vals[s] := by
        rw [Array.getD_eq_getD_getElem?, Array.getElem?_append_left (by simpa using hlt2)]
        simp [hlt2]
      refine ⟨by simp; omega, fun _ => ?_, fun h => absurd trivial h⟩
      rw [hget]
      exact hr.2 s v _ hv (List.getElem?_eq_getElem hlt2)
  · simp [startFr, lenN_eq, hr.1]
  · obtain ⟨v, _, rfl⟩ := getO_start _ _ _ _ hs; simp at hi
  · obtain ⟨v, _, rfl⟩ := getO_start _ _ _ _ hs; simp at hi
  · obtain ⟨v, _, rfl⟩ := getO_start _ _ _ _ hs; simp at hi

/-- A function by its body. -/
theorem callsTo_of_body (hd : DrawOk P) (hc : CxOk P cx) (htab : TabOk P cx.gl cx.tab) {f : FuncId} {fn : Func} (hf : P.funcs[f]? = some fn) {as : List SV} {ls : List Hl} {r : SV} {ls' : List Hl}
    (h : body cx fn as ls fun r' ls'' => Fin r' r ls'' ls') : CallsTo P cx.gl f as ls r ls' := by
  intro B E w vals hw0 hI0 hdom hb hg hh hr
  unfold body at h
  split at h
  · rename_i c hbody
    refine calls_of_wp hf hbody ?_
    refine wp_mono (exec_sound hd hc htab hg c _ _ h E _ w (start_sound hdom hb hh hr)) fun e a' w' hq => ?_
    obtain ⟨E', σ', hs', hk⟩ := hq
    cases e with
    | normal => rw [← lenN_eq ls] at hdom; exact end_sound hc hg hs' hdom hk
    | ret => rw [← lenN_eq ls] at hdom; exact end_sound hc hg hs' hdom hk
    | exit i => exact hk.elim
    | goto l => exact hk.elim
    | panic c => exact hk.elim
    | outgrown => exact hk.elim
  · exact h.elim

/-- A scope in which the run jumps back to one label, with a measure that need not be read off the frame. -/
theorem wp_scopeN {c rest : Code} {Q : Exit → Act → World → Prop} {a : Act} {w : World} (l : Nat) (hf : findLabel c l = some rest) (R : Nat → Act → World → Prop)
    (first : c.wp P (Exit.jump l (fun a w => ∃ n, R n a w) Q) a w)
    (pass : ∀ n a w, R n a w → rest.wp P (Exit.jump l (fun a' w' => ∃ n', n' < n ∧ R n' a' w') Q) a w) : (Code.scope c).wp P Q a w := by
  classical
  let μ : Act → World → Nat := fun a w => if h : ∃ n, R n a w then Classical.choose (exists_min h) else 0
  have hμ : ∀ a w, (∃ n, R n a w) → R (μ a w) a w ∧ ∀ m, R m a w → μ a w ≤ m := by
    intro a w h
    have : μ a w = Classical.choose (exists_min h) := by simp only [μ]; rw [dif_pos h]
    rw [this]
    exact Classical.choose_spec (exists_min h)
  refine wp_scope_jumps l (fun a w => ∃ n, R n a w) μ hf first fun a w hI => ?_
  obtain ⟨h1, h2⟩ := hμ a w hI
  refine wp_mono (pass _ a w h1) fun e a' w' hq => ?_
  cases e with
  | goto l' =>
    obtain ⟨rfl, n', hlt, hr⟩ := hq
    exact ⟨rfl, ⟨n', hr⟩, Nat.lt_of_le_of_lt ((hμ a' w' ⟨n', hr⟩).2 n' hr) hlt⟩
  | _ => exact hq

/-- A function by its body that jumps back to one label. -/
theorem callsTo_of_bodyJ (hd : DrawOk P) (hc : CxOk P cx) (htab : TabOk P cx.gl cx.tab) {f : FuncId} {fn : Func} (hf : P.funcs[f]? = some fn) {l : Nat} {pre c rest : Code} (hbody : fn.body = some (.seq pre (.scope c))) (hl : findLabel c l = some rest) {as : List SV} {ls : List Hl} {r : SV} {ls' : List Hl}
    (h : bodyJ cx fn pre c l rest as ls fun r' ls'' => Fin r' r ls'' ls') : CallsTo P cx.gl f as ls r ls' := by
  intro B E w vals hw0 hI0 hdom hb hg hh hr
  obtain ⟨keep, J, h1, h2⟩ := h
  rw [hc.D] at h1 h2
  have hdom' := hdom
  rw [← lenN_eq ls] at hdom'
  refine calls_of_wp hf hbody ?_
  refine wp_seq (wp_mono (exec_sound hd hc htab hg pre _ _ h1 E _ w (start_sound hdom hb hh hr)) fun e0 a0 w0 hq0 => ?_)
  obtain ⟨E0, σ0, hs0, hk0⟩ := hq0
  cases e0 with
  | ret => exact hk0.elim
  | exit i => exact hk0.elim
  | goto l => exact hk0.elim
  | panic c => exact hk0.elim
  | outgrown => exact hk0.elim
  | normal =>
  have h1 := hk0
  refine wp_scopeN l hl (fun m a w => ∃ vs hp E, J m vs hp ∧ StY B (startFr fn.ntmps as).length E a w ⟨mkfr (zipN keep vs) (blank (startFr fn.ntmps as)), hp, []⟩) ?_ ?_
  · refine wp_mono (exec_sound hd hc htab hg c _ _ h1 E0 _ w0 hs0) fun e a' w' hq => ?_
    obtain ⟨E', σ', hs', hk⟩ := hq
    cases e with
    | normal => exact end_sound hc hg hs' hdom' hk
    | ret => exact end_sound hc hg hs' hdom' hk
    | exit i => exact hk.elim
    | goto l' =>
      obtain ⟨rfl, hb2, m2, hJ2⟩ := hk
      exact ⟨rfl, m2, _, _, _, hJ2, hs'.head rfl hb2 hdom'⟩
    | panic c => exact hk.elim
    | outgrown => exact hk.elim
  · rintro m a1 w1 ⟨vs, hp, E1, hJ, hs1⟩
    refine wp_mono (exec_sound hd hc htab hg rest _ _ (h2 m vs hp hJ) E1 a1 w1 hs1) fun e a' w' hq => ?_
    obtain ⟨E', σ', hs', hk⟩ := hq
    cases e with
    | normal => exact end_sound hc hg hs' hdom' hk
    | ret => exact end_sound hc hg hs' hdom' hk
    | exit i => exact hk.elim
    | goto l' =>
      obtain ⟨rfl, hb2, m2, hlt, hJ2⟩ := hk
      exact ⟨rfl, m2, hlt, _, _, _, hJ2, hs'.head rfl hb2 hdom'⟩
    | panic c => exact hk.elim
    | outgrown => exact hk.elim

end
end Go.Sx
