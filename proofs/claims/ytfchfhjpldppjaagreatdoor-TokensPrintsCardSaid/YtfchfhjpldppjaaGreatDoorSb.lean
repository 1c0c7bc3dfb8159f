/- Part of the proofs of the statements about tokens (layer 5): a symbolic executor over the code and that it is sound; it has no conditions of its own. -/
import Derived.Test.YtfchfhjpldppjaaGreatDoorSa
/- Rows: slices that grow, rows that are written, parts of slices and strings. -/
namespace Go.Sx
open Go

section
variable {P : Program} {cx : Cx} {σ : Sy} {T : List Nat} {o : Oper} {K : Out → Prop}

/-- What is appended: nothing (nil), or cells that lie somewhere. -/
def srcIs (w : World) (src : Value) (m sz : Nat) (news : List Value) : Prop :=
  news.length = m * sz ∧ (∀ v ∈ news, v.oneCell' = true) ∧ ((src = .slice none 0 0 ∧ m = 0) ∨ ∃ (a : Addr) (c : Nat), src = .slice (some a) m c ∧ ∀ (j : Nat) (u : Value), news[j]? = some u → w.cell? (a.add j) = some u)

/-- append onto a slice of one's own: the elder law, and where the new slice lies. -/
theorem append_law {t e ty : TypeId} {ti : TI} (hu : P.underlying t = some (.slice e)) (he : TIok P e ti) {sz : Nat} (hsz : ti.size = sz) (hz0 : 0 < sz) {w : World} {v : Value} {n : Nat} {xs : List Value} (hown : w.ownsRow 0 e sz v n xs) {src : Value} {m : Nat} {news : List Value} (hs : srcIs w src m sz news)
    (h63 : n + m ≤ maxLen) (hb : (n + m) * ti.bytes ≤ 140737488355328) :
    ∃ v' w', (Builtin.append_ #[t, t] ty #[v, src]).run P w = .ok v' w' ∧ w'.ownsRow 0 e sz v' (n + m) (xs ++ news) ∧ (v' = .slice none 0 0 ↔ v = .slice none 0 0 ∧ m = 0) ∧
      ((v'.ownBlock = v.ownBlock ∧ w.grownBy w' v.ownBlock) ∨ (v'.ownBlock = some w.heap.size ∧ w.grownBy w' none)) ∧ (∃ a c, v' = .slice a (n + m) c) ∧ (m = 0 → v' = v) := by
  obtain ⟨i, z, hi, hsize, hby, hz, hzs⟩ := he.info
  obtain ⟨hl, h1, hsrc⟩ := hs
  have hown0 := hown
  have shape : ∀ (v' : Value) (w' : World) (xs' : List Value), w'.ownsRow 0 e sz v' (n + m) xs' → ∃ a c, v' = .slice a (n + m) c := by
    intro v' w' xs' h
    rcases h.2 with ⟨rfl, e0⟩ | ⟨g, cap, cur, rfl, _⟩
    · exact ⟨none, 0, by rw [e0]⟩
    · exact ⟨_, _, rfl⟩
  rcases hsrc with ⟨rfl, rfl⟩ | ⟨a, c, rfl, hnews⟩
  · have hn : news = [] := List.eq_nil_of_length_eq_zero (by simpa using hl)
    subst hn
    refine ⟨v, w, ?_, by simpa using hown, by simp, .inl ⟨rfl, ⟨rfl, rfl, rfl, Nat.le_refl _, fun _ _ _ => rfl⟩⟩, shape v w xs (by simpa using hown), fun _ => rfl⟩
    rcases hown.2 with ⟨rfl, rfl⟩ | ⟨g, cap, cur, rfl, hbg, hg, hnc, hcm, hcs, htake⟩
    · simp [Builtin.append_, run_underlying hu, sizeOf, typeInfo, hi, Builtin.lenOf, Builtin.firstCells]
    · simp [Builtin.append_, run_underlying hu, sizeOf, typeInfo, hi, Builtin.lenOf, Builtin.firstCells, hnc, storeCells]
  · have hzsz : z.cells.size = sz := by
      have := (zsB_get (I := fun _ _ => False) (w := w) hzs).1
      have h2 : ti.zero.length = sz := by
        rw [he.zlen, hsz]
      simpa [h2] using this.symm
    obtain ⟨v', w', hr, r1, r2, r3⟩ := run_append_own (P := P) w 0 t ty e i z sz ti.bytes hu hi hz (by rw [hsize, hsz]) hby hzsz hz0 v n xs hown a m c news hl hnews h1 h63 hb (Nat.zero_le _)
    refine ⟨v', w', hr, r1, r3, ?_, shape v' w' _ r1, ?_⟩
    case refine_2 =>
      rintro rfl
      rcases hown.2 with ⟨rfl, rfl⟩ | ⟨g, cap, cur, rfl, hbg, hg, hnc, hcm, hcs, htake⟩
      · exact r3.2 ⟨rfl, rfl⟩
      · have hr2 := run_append_room (P := P) w t ty e i hu hi g n cap cur hg a 0 c news (by rw [hsize, hsz]; exact hl) hnews h1 (by omega) (by rw [hl, hsize, hsz, hcs]; simp only [Nat.zero_mul, Nat.add_zero]; exact Nat.mul_le_mul_right _ hnc)
        rw [hr] at hr2
        simp only [Result.ok.injEq] at hr2
        rw [hr2.1]; rfl
    have hmax : n + m ≤ 9223372036854775807 := by simpa [maxLen] using h63
    rcases hown.2 with ⟨rfl, rfl⟩ | ⟨g, cap, cur, rfl, hbg, hg, hnc, hcm, hcs, htake⟩
    · by_cases hm : m = 0
      · subst hm
        left
        exact ⟨by rw [r3.2 ⟨rfl, rfl⟩], r2⟩
      · right
        have hr2 := run_append_nil (P := P) w t ty e i z hu hi hz a m c news (by rw [hsize, hsz]; exact hl) hnews (by omega) (by omega) (by rw [hby]; simp only [Nat.zero_add] at hb; omega)
        rw [hr] at hr2
        simp only [Result.ok.injEq] at hr2
        rw [hr2.1, hr2.2]
        exact ⟨rfl, ⟨rfl, rfl, rfl, by simp, fun k hk _ => heap_alloc_old w.drew _ hk⟩⟩
    · by_cases hroom : n + m ≤ cap
      · left
        refine ⟨?_, r2⟩
        have hr2 := run_append_room (P := P) w t ty e i hu hi g n cap cur hg a m c news (by rw [hsize, hsz]; exact hl) hnews h1 hroom (by rw [hl, hsize, hsz, hcs, ← Nat.add_mul]; exact Nat.mul_le_mul_right _ hroom)
        rw [hr] at hr2
        simp only [Result.ok.injEq] at hr2
        rw [hr2.1]; rfl
      · right
        have holds : ∀ j u, xs[j]? = some u → w.cell? ((⟨g, 0, none⟩ : Addr).add j) = some u := hown0.cells (g := g) rfl
        have hr2 := run_append_grow (P := P) w t ty e i z hu hi hz ⟨g, 0, none⟩ n cap xs (by rw [hsize, hsz]; exact hown0.1) holds a m c news (by rw [hsize, hsz]; exact hl) hnews (by omega) (by omega) (by rw [hby]; exact growslice_fits (by omega) hb)
        rw [hr] at hr2
        simp only [Result.ok.injEq] at hr2
        rw [hr2.1, hr2.2]
        exact ⟨rfl, ⟨rfl, rfl, rfl, by simp, fun k hk _ => heap_alloc_old w.drew _ hk⟩⟩

/-- What is appended, out of a symbolic row. -/
theorem rowOf_src {E : Env} {w : World} {sz : Nat} {s : SV} {m : ST} {g : Nat → List SV} {v : Value} (h : rowOf sz s = some (m, g)) (hr : Rel E w s v) :
    ∃ (k : Nat) (news : List Value), m.den = (k : Int) ∧ k ≤ maxLen ∧ srcIs w v k sz news ∧ (∀ i, i < k → (g i).length = sz) ∧ ∀ (i j : Nat) (s : SV) (u : Value), i < k → (g i)[j]? = some s → news[i * sz + j]? = some u → RO E.I w s u := by
  have key : ∀ (nl : BT), RO E.I w (.sl nl m sz g) v → ∃ (k : Nat) (news : List Value), m.den = (k : Int) ∧ k ≤ maxLen ∧ srcIs w v k sz news ∧ (∀ i, i < k → (g i).length = sz) ∧ ∀ (i j : Nat) (s : SV) (u : Value), i < k → (g i)[j]? = some s → news[i * sz + j]? = some u → RO E.I w s u := by
    intro nl hro
    rcases hro.sl_inv with ⟨rfl, e0, _⟩ | ⟨a, k, cap, f, rfl, _, e2, e3, e3', e4, e5, e5', e6, e7⟩
    · exact ⟨0, [], by simpa using e0, Nat.zero_le _, ⟨by simp, by simp, .inl ⟨rfl, rfl⟩⟩, by simp, by simp⟩
    · refine ⟨k, (List.range (k * sz)).map fun q => f (q / sz) (q % sz), e2, Nat.le_trans e3 e3', ⟨by simp, fun u hu => ?_, .inr ⟨a, cap, rfl, fun j u hj => ?_⟩⟩, e5, fun i j s u hi hs hu => ?_⟩
      · rw [List.mem_map] at hu
        obtain ⟨q, hq, rfl⟩ := hu
        have hq : q < k * sz := by simpa using hq
        have hsz : 0 < sz := by rcases Nat.eq_zero_or_pos sz with h | h; subst h; omega; exact h
        exact e5' _ _ ((Nat.div_lt_iff_lt_mul hsz).2 hq) (Nat.mod_lt _ hsz)
      · rw [List.getElem?_map] at hj
        have hjlt : j < k * sz := by
          rcases Nat.lt_or_ge j (k * sz) with h | h
          · exact h
          · rw [List.getElem?_eq_none (by simpa using h)] at hj; cases hj
        have hsz : 0 < sz := by rcases Nat.eq_zero_or_pos sz with h | h; subst h; omega; exact h
        have hd := (Nat.div_lt_iff_lt_mul hsz).2 hjlt
        have := (e6 (j / sz) (j % sz) hd (Nat.mod_lt _ hsz)).1
        rw [Nat.mul_comm, Nat.div_add_mod] at this
        simp [hjlt] at hj
        subst hj
        have hspot := e4 (by rcases Nat.eq_zero_or_pos k with h | h; subst h; omega; exact h)
        have : a.add j = ⟨a.block, a.off + j, none⟩ := by
          obtain ⟨b, o, sp⟩ := a
          simp only at hspot
          subst hspot
          exact add_lit b o j
        rw [this]
        assumption
      · have hsj : j < sz := by rw [← e5 i hi]; exact (List.getElem?_eq_some_iff.1 hs).1
        have hlt : i * sz + j < k * sz := by
          have : (i + 1) * sz ≤ k * sz := Nat.mul_le_mul_right _ hi
          rw [Nat.add_mul] at this
          omega
        rw [List.getElem?_map] at hu
        simp [hlt] at hu
        have h1 : (i * sz + j) / sz = i := by rw [Nat.mul_comm, Nat.mul_add_div (by omega), Nat.div_eq_of_lt hsj]; omega
        rw [h1, Nat.mod_eq_of_lt hsj] at hu
        subst hu
        exact e7 i j s hi hs
  unfold rowOf at h
  split at h
  · rename_i nl m' sz' g'
    split at h
    · rename_i e
      simp only [Option.some.injEq, Prod.mk.injEq] at h
      obtain ⟨rfl, rfl⟩ := h
      have e : sz' = sz := by simpa using e
      subst e
      exact key nl hr.sl_inv
    · cases h
  · rename_i nl m' sz' g' h0
    split at h
    · rename_i e
      simp only [Option.some.injEq, Prod.mk.injEq] at h
      obtain ⟨rfl, rfl⟩ := h
      have e : sz' = sz := by simpa using e
      subst e
      exact key nl hr.gsl_inv.1
    · cases h
  · cases h

/-- The state behind a slice that has grown (or has come). -/
theorem put_tail {B : Bs} {N : Nat} {E : Env} {a : Act} {w : World} {ff : Nat → SG} {hf : Nat → Hl} (st : St B N E a w ff hf) {h : Nat} {e : TypeId} {sz : Nat} {v v' : Value} {n m : Nat} {xs news : List Value} {w' : World}
    (hold : (hf h = .fresh ∧ v = .slice none 0 0) ∨ ∃ nt, hf h = .tail e nt sz ∧ E.τ h = some v ∧ (∀ b, v.ownBlock = some b → E.O b = some h ∧ ∀ o, n * sz ≤ o → ¬ E.I b o))
    (h1 : ∀ u ∈ xs ++ news, u.oneCell' = true)
    (hown : w.ownsRow 0 e sz v n xs) (hown' : w'.ownsRow 0 e sz v' (n + m) (xs ++ news)) (hblk : (v'.ownBlock = v.ownBlock ∧ w.grownBy w' v.ownBlock) ∨ (v'.ownBlock = some w.heap.size ∧ w.grownBy w' none)) (hshape : ∃ a c, v' = .slice a (n + m) c) (hkeep : hf h ≠ .fresh → m = 0 → v' = v) (nt' : ST) (hnt : nt'.den = ((n + m : Nat) : Int)) :
    ∃ E', Ext E w E' w' ∧ Base B E' w' ∧ (∀ k, HOk E' w' k (upd hf h (.tail e nt' sz) k)) ∧ E'.τ h = some v' ∧ (∀ b o, v'.ownBlock = some b → o < (n + m) * sz → E'.I b o) ∧ (∀ b o, v'.ownBlock = some b → o < (n + m) * sz → w'.cell? ⟨b, o, none⟩ = (xs ++ news)[o]?) := by
  have hb := st.base
  have hbold : ∀ b, v.ownBlock = some b → E.O b = some h ∧ (∀ o, n * sz ≤ o → ¬ E.I b o) ∧ b < w.heap.size := by
    intro b hbb
    rcases hold with ⟨_, rfl⟩ | ⟨_, _, _, h3⟩
    · simp [Value.ownBlock] at hbb
    · exact ⟨(h3 b hbb).1, (h3 b hbb).2, owned_lt hb (h3 b hbb).1⟩
  let E' : Env := ⟨E.β, upd E.τ h (some v'), fun b => if v'.ownBlock = some b then some h else E.O b, E.κ, E.ζ, fun b o => E.I b o ∨ (v'.ownBlock = some b ∧ o < (n + m) * sz)⟩
  have hcellv : ∀ b o, v.ownBlock = some b → o < n * sz → w.cell? ⟨b, o, none⟩ = xs[o]? := by
    intro b o hbb ho
    rcases hown.2 with ⟨rfl, _⟩ | ⟨g, cap, cur, rfl, _, hgg, hnc, _, hcs, htake⟩
    · simp [Value.ownBlock] at hbb
    · simp [Value.ownBlock] at hbb
      subst hbb
      rw [cell_of_row w g o cur e (0, 0) hgg, ← htake, List.getElem?_take, if_pos ho]
      simp
  have hcellv' : ∀ b o, v'.ownBlock = some b → o < (n + m) * sz → w'.cell? ⟨b, o, none⟩ = (xs ++ news)[o]? := by
    intro b o hbb ho
    rcases hown'.2 with ⟨rfl, _⟩ | ⟨g, cap, cur, rfl, _, hgg, hnc, _, hcs, htake⟩
    · simp [Value.ownBlock] at hbb
    · simp [Value.ownBlock] at hbb
      subst hbb
      rw [cell_of_row w' g o cur e (0, 0) hgg, ← htake, List.getElem?_take, if_pos ho]
      simp
  have hgos : w'.os = w.os ∧ w'.tape = w.tape ∧ w'.output = w.output ∧ w.heap.size ≤ w'.heap.size := by
    rcases hblk with ⟨_, hg⟩ | ⟨_, hg⟩ <;> exact ⟨hg.os, hg.tape, hg.output, hg.size⟩
  have hother : ∀ b, b < w.heap.size → v.ownBlock ≠ some b → w'.heap[b]? = w.heap[b]? := by
    intro b hlt hne
    rcases hblk with ⟨_, hg⟩ | ⟨_, hg⟩
    · exact hg.block b hlt (fun e => hne e.symm)
    · exact hg.block b hlt (by simp)
  have hI : ∀ b o, E.I b o → w'.cell? ⟨b, o, none⟩ = w.cell? ⟨b, o, none⟩ := by
    intro b o hi
    have hlt := hb.Ibd b o hi
    by_cases hbv : v.ownBlock = some b
    · have ho : o < n * sz := by
        rcases Nat.lt_or_ge o (n * sz) with h | h
        · exact h
        · exact absurd hi ((hbold b hbv).2.1 o h)
      rcases hblk with ⟨hs, _⟩ | ⟨_, hg⟩
      · rw [hcellv' b o (by rw [hs]; exact hbv) (by rw [Nat.add_mul]; omega), hcellv b o hbv ho, List.getElem?_append_left (by rw [hown.1]; exact ho)]
      · simp only [World.cell?]
        rw [hg.block b hlt (by simp)]
    · simp only [World.cell?]
      rw [hother b hlt hbv]
  have hx : Ext E w E' w' := by
    refine ⟨fun _ _ h => h, fun k u hk => ?_, fun _ _ h => h, fun _ _ h => h, fun b o h => .inl h, hI⟩
    show upd E.τ h (some v') k = some u ∨ ∃ a m' c a' m'' c', u = .slice a m' c ∧ upd E.τ h (some v') k = some (.slice a' m'' c') ∧ m' < m''
    unfold upd
    by_cases e : k = h
    · subst e
      rw [if_pos rfl]
      rcases hold with ⟨hfr, _⟩ | ⟨nt, hne, h2, _⟩
      · have := st.heap k
        rw [hfr] at this
        rw [this.2.1] at hk
        cases hk
      · rw [h2] at hk
        cases hk
        by_cases hm : m = 0
        · left; rw [hkeep (by rw [hne]; simp) hm]
        · right
          obtain ⟨a', c', rfl⟩ := hshape
          have : ∃ a c, v = .slice a n c := by
            rcases hown.2 with ⟨rfl, e0⟩ | ⟨g, cap, cur, rfl, _⟩
            · exact ⟨none, 0, by rw [e0]⟩
            · exact ⟨_, _, rfl⟩
          obtain ⟨a, c, rfl⟩ := this
          exact ⟨a, n, c, a', n + m, c', rfl, rfl, by omega⟩
    · rw [if_neg e]; exact .inl hk
  have hownlt : ∀ b, v'.ownBlock = some b → b < w'.heap.size := fun b hbb => (hown'.lt b hbb).2
  have hnew : ∀ b, v'.ownBlock = some b → B.w0.heap.size ≤ b ∨ B.X b := by
    intro b hbb
    rcases hblk with ⟨hs, _⟩ | ⟨hs, _⟩
    · exact (hb.Obd b h (hbold b (by rw [← hs]; exact hbb)).1).2
    · rw [hs] at hbb; cases hbb; exact .inl hb.size
  refine ⟨E', hx, ⟨hgos.1.trans hb.os, hgos.2.1.trans hb.tape, hgos.2.2.1.trans hb.output, Nat.le_trans hb.size hgos.2.2.2, fun b hlt hX => ?_, fun b o hi => ?_, fun b o hi => ?_, fun b o hi => ?_, fun b k hO => ?_, hb.β0.ext hx⟩, fun k => ?_, by simp [E', upd], fun b o hbb ho => .inr ⟨hbb, ho⟩, hcellv'⟩
  · have hsz := hb.size
    rw [hother b (by omega) ?_]
    · exact hb.old b hlt hX
    · intro hbv
      rcases (hb.Obd b h (hbold b hbv).1).2 with h | h
      · omega
      · exact hX h
  · obtain ⟨i1, i2⟩ := hb.I0 b o hi
    exact ⟨.inl i1, by rw [hI b o i1]; exact i2⟩
  · rcases hi with hi | ⟨hbb, _⟩
    · exact Nat.lt_of_lt_of_le (hb.Ibd b o hi) hgos.2.2.2
    · exact hownlt b hbb
  · rcases hi with hi | ⟨hbb, ho⟩
    · exact hb.Inew b o hi
    · exact .inr (hnew b hbb)
  · have hO : (if v'.ownBlock = some b then some h else E.O b) = some k := hO
    split at hO
    · rename_i hbb
      exact ⟨hownlt b hbb, hnew b hbb⟩
    · obtain ⟨o1, o2⟩ := hb.Obd b k hO
      exact ⟨Nat.lt_of_lt_of_le o1 hgos.2.2.2, o2⟩
  · by_cases e : k = h
    · subst e
      simp only [upd, if_pos]
      refine ⟨v', n + m, xs ++ news, by simp [E', upd], hown', hnt, h1, fun b hbb => ⟨by show (if v'.ownBlock = some b then some k else E.O b) = some k; rw [if_pos hbb], fun o ho hi => ?_⟩⟩
      rcases hi with hi | ⟨_, ho2⟩
      · rcases hblk with ⟨hs, _⟩ | ⟨hs, _⟩
        · exact (hbold b (by rw [← hs]; exact hbb)).2.1 o (by rw [Nat.add_mul] at ho; omega) hi
        · rw [hs] at hbb; cases hbb
          have := hb.Ibd _ _ hi
          omega
      · omega
    · simp only [upd, if_neg e]
      refine HOk.keep hx (st.heap k) rfl (by simp [E', upd, e]) rfl rfl fun b hO => ?_
      have hlt := owned_lt hb hO
      have hne : v'.ownBlock ≠ some b := by
        intro hbb
        rcases hblk with ⟨hs, _⟩ | ⟨hs, _⟩
        · have := (hbold b (by rw [← hs]; exact hbb)).1
          rw [hO] at this
          exact e (Option.some.inj this)
        · rw [hs] at hbb; cases hbb; omega
      have hnv : v.ownBlock ≠ some b := by
        intro hbb
        have := (hbold b hbb).1
        rw [hO] at this
        exact e (Option.some.inj this)
      refine ⟨by show (if v'.ownBlock = some b then some h else E.O b) = some k; rw [if_neg hne]; exact hO, hother b hlt hnv, fun o hi => ?_⟩
      rcases hi with hi | ⟨hbb, _⟩
      · exact hi
      · exact absurd hbb hne

end
end Go.Sx
/- Rows: the operations. -/
namespace Go.Sx
open Go

section
variable {P : Program} {cx : Cx} {σ : Sy} {T : List Nat} {o : Oper} {K : Out → Prop}

/-- A grown slice reads as what it was and what has come. -/
theorem grown_RO {I' : Nat → Nat → Prop} {w' : World} {e : TypeId} {sz n m : Nat} {v' : Value} {xs news : List Value} {f' : Nat → List SV} {nl' : BT} {nt' : ST} (hown' : w'.ownsRow 0 e sz v' (n + m) (xs ++ news)) (hxl : xs.length = n * sz)
    (hnl : nl'.den = true ↔ v' = .slice none 0 0) (hnt : nt'.den = ((n + m : Nat) : Int)) (h1 : ∀ u ∈ xs ++ news, u.oneCell' = true)
    (hI : ∀ b o, v'.ownBlock = some b → o < (n + m) * sz → I' b o) (hcell : ∀ b o, v'.ownBlock = some b → o < (n + m) * sz → w'.cell? ⟨b, o, none⟩ = (xs ++ news)[o]?)
    (hl1 : ∀ i, i < n → (f' i).length = sz) (hl2 : ∀ j, j < m → (f' (n + j)).length = sz)
    (hr1 : ∀ (i j : Nat) (s : SV) (u : Value), i < n → (f' i)[j]? = some s → xs[i * sz + j]? = some u → RO I' w' s u) (hr2 : ∀ (i j : Nat) (s : SV) (u : Value), i < m → (f' (n + i))[j]? = some s → news[i * sz + j]? = some u → RO I' w' s u) :
    RO I' w' (.sl nl' nt' sz f') v' := by
  have hlen : (xs ++ news).length = (n + m) * sz := hown'.1
  have hnlen : news.length = m * sz := by rw [List.length_append, hxl, Nat.add_mul] at hlen; omega
  rcases hown'.2 with ⟨rfl, e0⟩ | ⟨g, cap, cur, rfl, _, hgg, hnc, hcm, hcs, htake⟩
  · exact .slnil (hnl.2 rfl) (by rw [hnt, e0]; rfl)
  · have hidx : ∀ i j, i < n + m → j < sz → i * sz + j < (n + m) * sz := by
      intro i j hi hj
      have : (i + 1) * sz ≤ (n + m) * sz := Nat.mul_le_mul_right _ hi
      rw [Nat.add_mul] at this
      omega
    have hlf : ∀ i, i < n + m → (f' i).length = sz := by
      intro i hi
      by_cases hin : i < n
      · exact hl1 i hin
      · have := hl2 (i - n) (by omega)
        rwa [show n + (i - n) = i by omega] at this
    refine .sl (fun i j => (xs ++ news).getD (i * sz + j) undef) ?_ hnt hnc hcm (fun _ => rfl) hlf (fun i j hi hj => ?_) (fun i j hi hj => ⟨?_, ?_⟩) (fun i j s hi hs => ?_)
    · cases hb : nl'.den with
      | false => rfl
      | true => exact absurd (hnl.1 hb) (by simp)
    · refine h1 _ ?_
      have := hidx i j hi hj
      rw [List.getD_eq_getElem?_getD, List.getElem?_eq_getElem (by rw [hlen]; exact this)]
      exact List.getElem_mem _
    · have hlt := hidx i j hi hj
      simp only [Nat.zero_add]
      rw [hcell g _ rfl hlt, List.getD_eq_getElem?_getD, List.getElem?_eq_getElem (by rw [hlen]; exact hlt)]
      rfl
    · simp only [Nat.zero_add]
      exact hI g _ rfl (hidx i j hi hj)
    · have hj : j < sz := by rw [← hlf i hi]; exact (List.getElem?_eq_some_iff.1 hs).1
      have hlt := hidx i j hi hj
      by_cases hin : i < n
      · have hxi : i * sz + j < xs.length := by
          rw [hxl]
          have : (i + 1) * sz ≤ n * sz := Nat.mul_le_mul_right _ hin
          rw [Nat.add_mul] at this
          omega
        refine hr1 i j s _ hin hs ?_
        rw [List.getD_eq_getElem?_getD, List.getElem?_append_left hxi, List.getElem?_eq_getElem hxi]
        rfl
      · have e1 : i * sz + j = n * sz + ((i - n) * sz + j) := by
          have : i * sz = n * sz + (i - n) * sz := by rw [← Nat.add_mul]; congr 1; omega
          omega
        have hni : (i - n) * sz + j < news.length := by
          rw [hnlen]
          have : (i - n + 1) * sz ≤ m * sz := Nat.mul_le_mul_right _ (by omega)
          rw [Nat.add_mul] at this
          omega
        refine hr2 (i - n) j s _ (by omega) (by rw [show n + (i - n) = i by omega]; exact hs) ?_
        rw [List.getD_eq_getElem?_getD, e1, List.getElem?_append_right (by omega), hxl, Nat.add_sub_cancel_left, List.getElem?_eq_getElem hni]
        rfl

theorem run_builtin_append {c : Call} (ho : o.op = .call c) (hcal : c.callee = .builtin .append) {x y : Operand} {t : TypeId} (hx : c.args.toList = [x, y]) (ht : c.argTypes.toList = [t, t]) {a : Act} {w w' : World} {v' : Value} (hr : (Builtin.append_ #[t, t] o.type #[a.eval x, a.eval y]).run P w = .ok v' w') :
    (execOp a.eval o).run P w = .ok (.value v') w' := by
  have e1 : c.args = #[x, y] := Array.ext' (by simpa using hx)
  have e2 : c.argTypes = #[t, t] := Array.ext' (by simpa using ht)
  simp [execOp, ho, resolve, hcal, e1, e2, invoke, builtin, hr]

theorem local_append_new (hc : CxOk P cx) {c : Call} (ho : o.op = .call c) (hcal : c.callee = .builtin .append) {x y : Operand} {t e sz : Nat} {te ti : TI} (hx : c.args.toList = [x, y]) (ht : c.argTypes.toList = [t, t]) (hlt : look t cx.tt = some ti) (hk : ti.k = .slice e) (hle : look e cx.tt = some te) (hsz : te.size = sz) (hz : 0 < sz)
    {sz0 : Nat} {f0 : Nat → List SV} (hvx : rd cx σ T x = some (.sl (.l true) (.l 0) sz0 f0)) {s : SV} (hvy : rd cx σ T y = some s) {m : ST} {g : Nat → List SV} (hrow : rowOf sz s = some (m, g)) (hb : m.den * te.bytes ≤ 140737488355328 ∧ m.den ≤ 9223372036854775807)
    {f' : Nat → List SV} {n' : Int} (hn' : n' = m.den) (hf' : ∀ j : Nat, (j : Int) < m.den → f' j = g j) : Local P cx.gl σ T o ⟨.gsl (cmpT .eql m (.l 0)) (.a n') sz f' (lenN σ.hp), [.put (lenN σ.hp) (.tail e (.a n') sz)], [], []⟩ := by
  intro B N E a w ff hf hg st ag agh hT K' Q hK
  have mx : x ∈ o.op.operands.toList := by simp [ho, Op.operands, Call.operands, hcal, hx]
  have my : y ∈ o.op.operands.toList := by simp [ho, Op.operands, Call.operands, hcal, hx]
  have hrx := (rd_sound hvx hg st (ag_of ag mx) hT).sl_inv
  have hry := rd_sound hvy hg st (ag_of ag my) hT
  have hvx' : a.eval x = .slice none 0 0 := by
    rcases hrx.sl_inv with ⟨h, _⟩ | ⟨_, _, _, _, _, h, _⟩
    · exact h
    · simp [BT.den] at h
  obtain ⟨k, news, r1, r2, r3, r4, r5⟩ := rowOf_src hrow hry
  have hfresh : hf (lenN σ.hp) = .fresh := by
    have := agh.efs _ (List.mem_singleton.2 rfl)
    simp only [AgE, hfOf, nth_eq, lenN_eq] at this
    rw [lenN_eq, this]; simp
  have hbk : k * te.bytes ≤ 140737488355328 := by
    have := hb.1
    rw [r1] at this
    have h : ((k * te.bytes : Nat) : Int) ≤ 140737488355328 := by rw [Int.natCast_mul]; exact this
    omega
  have hown := World.ownsRow_nil w 0 e sz
  obtain ⟨v', w', l1, l2, l3, l4, l5, l6⟩ := append_law (P := P) (ty := o.type) ((hc.ti hlt).slice hk) (hc.ti hle) hsz hz hown r3 (by simpa using r2) (by simpa using hbk)
  obtain ⟨E', x1, x2, x3, x4, x5, x6⟩ := put_tail (h := lenN σ.hp) (e := e) (sz := sz) st (.inl ⟨hfresh, rfl⟩) (by simpa using r3.2.1) hown l2 l4 l5 (fun _ => l6) (.a n') (by rw [hn', r1]; simp [ST.den])
  unfold Oper.wp
  rw [run_builtin_append ho hcal hx ht (a := a) (w := w) (w' := w') (v' := v') (by rw [hvx']; exact l1)]
  refine hK v' w' E' x1 x2 x3 (.gsl ?_ ?_)
  · refine grown_RO l2 hown.1 ?_ (by rw [hn', r1]; simp [ST.den]) (by simpa using r3.2.1) x5 x6 (by intro i hi; omega) (fun j hj => ?_) (by intro i j s u hi; omega) (fun i j s u hi hs hu => ?_)
    · rw [cmpT_den, l3]
      simp only [cmpDen, ST.den, r1, beq_iff_eq, true_and]
      omega
    · rw [Nat.zero_add, hf' j (by rw [r1]; omega)]; exact r4 j hj
    · rw [Nat.zero_add, hf' i (by rw [r1]; omega)] at hs
      exact (r5 i j s u hi hs hu).mono x1.I x1.cell
  · obtain ⟨a0, c0, rfl⟩ := l5
    refine ⟨a0, 0 + k, c0, x4, ?_, fun _ => rfl⟩
    simp only [ST.den, hn', r1]; omega

theorem local_append_more (hc : CxOk P cx) {c : Call} (ho : o.op = .call c) (hcal : c.callee = .builtin .append) {x y : Operand} {t e sz : Nat} {te ti : TI} (hx : c.args.toList = [x, y]) (ht : c.argTypes.toList = [t, t]) (hlt : look t cx.tt = some ti) (hk : ti.k = .slice e) (hle : look e cx.tt = some te) (hsz : te.size = sz) (hz : 0 < sz)
    {nl : BT} {n n0 : ST} {f : Nat → List SV} {h : Nat} (hvx : rd cx σ T x = some (.gsl nl n sz f h)) (hh : nth σ.hp h = some (.tail e n0 sz)) {s : SV} (hvy : rd cx σ T y = some s) {m : ST} {g : Nat → List SV} (hrow : rowOf sz s = some (m, g))
    (hb : n.den = n0.den ∧ (n.den + m.den) * te.bytes ≤ 140737488355328 ∧ n.den + m.den ≤ 9223372036854775807)
    {f' : Nat → List SV} {n' : Int} (hn' : n' = n.den + m.den) (hf1 : ∀ i : Nat, (i : Int) < n.den → f' i = f i) (hf' : ∀ i j : Nat, (i : Int) = n.den + j → (j : Int) < m.den → f' i = g j) :
    Local P cx.gl σ T o ⟨.gsl (andT nl (cmpT .eql m (.l 0))) (.a n') sz f' h, [.put h (.tail e (.a n') sz)], [h], []⟩ := by
  intro B N E a w ff hf hg st ag agh hT K' Q hK
  have mx : x ∈ o.op.operands.toList := by simp [ho, Op.operands, Call.operands, hcal, hx]
  have my : y ∈ o.op.operands.toList := by simp [ho, Op.operands, Call.operands, hcal, hx]
  obtain ⟨hrx, htok⟩ := (rd_sound hvx hg st (ag_of ag mx) hT).gsl_inv
  have hry := rd_sound hvy hg st (ag_of ag my) hT
  obtain ⟨k, news, r1, r2, r3, r4, r5⟩ := rowOf_src hrow hry
  have hkk := st.heap h
  rw [agh.rds h (List.mem_singleton.2 rfl), nth_hf hh] at hkk
  obtain ⟨v, nn, xs, k1, k2, k3, k4, k5⟩ := hkk
  have hv : a.eval x = v := by
    obtain ⟨a0, m0, c0, q1, _, q3⟩ := htok
    rw [k1] at q1
    cases q1
    have : m0 = nn := by
      rcases k2.2 with ⟨e1, e2⟩ | ⟨g0, cap, cur, e1, _⟩
      · cases e1; exact e2.symm
      · cases e1; rfl
    subst this
    exact q3 (by rw [hb.1, k3])
  rw [hv] at hrx
  have hnn : n.den = (nn : Int) := by rw [hb.1, k3]
  have hbk : (nn + k) * te.bytes ≤ 140737488355328 := by
    have := hb.2.1
    rw [hnn, r1] at this
    have h : (((nn + k) * te.bytes : Nat) : Int) ≤ 140737488355328 := by rw [Int.natCast_mul, Int.natCast_add]; exact this
    omega
  obtain ⟨v', w', l1, l2, l3, l4, l5, l6⟩ := append_law (P := P) (ty := o.type) ((hc.ti hlt).slice hk) (hc.ti hle) hsz hz k2 r3 (by have := hb.2.2; rw [hnn, r1] at this; simp only [maxLen]; omega) hbk
  have h1all : ∀ u ∈ xs ++ news, u.oneCell' = true := fun u hu => by
    rcases List.mem_append.1 hu with hu | hu
    · exact k4 u hu
    · exact r3.2.1 u hu
  have hnt : (ST.a n').den = ((nn + k : Nat) : Int) := by simp only [ST.den, hn', hnn, r1]; omega
  obtain ⟨E', x1, x2, x3, x4, x5, x6⟩ := put_tail (h := h) (e := e) (sz := sz) st (.inr ⟨n0, by rw [agh.rds h (List.mem_singleton.2 rfl), nth_hf hh], k1, k5⟩) h1all k2 l2 l4 l5 (fun _ => l6) (.a n') hnt
  unfold Oper.wp
  rw [run_builtin_append ho hcal hx ht (a := a) (w := w) (w' := w') (v' := v') (by rw [hv]; exact l1)]
  refine hK v' w' E' x1 x2 x3 (.gsl ?_ ?_)
  · have hold : (v = .slice none 0 0 ↔ nl.den = true) ∧ (∀ i, i < nn → (f i).length = sz) ∧ ∀ (i j : Nat) (s : SV) (u : Value), i < nn → (f i)[j]? = some s → xs[i * sz + j]? = some u → RO E.I w s u := by
      rcases hrx.sl_inv with ⟨e1, e2, e3⟩ | ⟨ad, m0, cap0, g0, e1, e2, e3, _, _, q4, q5, _, q6, q7⟩
      · have : nn = 0 := by omega
        subst this
        exact ⟨⟨fun _ => e3, fun _ => e1⟩, by intro i hi; omega, by intro i j s u hi; omega⟩
      · have hm : m0 = nn := by omega
        subst hm
        refine ⟨⟨fun e => by rw [e1] at e; simp at e, fun e => by rw [e2] at e; cases e⟩, q5, fun i j s u hi hs hu => ?_⟩
        rcases k2.2 with ⟨e4, _⟩ | ⟨g1, cap, cur, e4, _, hgg, hnc, _, hcs, htake⟩
        · rw [e1] at e4; simp at e4
        · rw [e1] at e4
          simp only [Value.slice.injEq, Option.some.injEq] at e4
          obtain ⟨rfl, _, rfl⟩ := e4
          have hj : j < sz := by rw [← q5 i hi]; exact (List.getElem?_eq_some_iff.1 hs).1
          have hc := (q6 i j hi hj).1
          simp only [Nat.zero_add] at hc
          have hlt : i * sz + j < m0 * sz := by
            have : (i + 1) * sz ≤ m0 * sz := Nat.mul_le_mul_right _ hi
            rw [Nat.add_mul] at this
            omega
          rw [cell_of_row w g1 (i * sz + j) cur e (0, 0) hgg] at hc
          rw [← htake, List.getElem?_take, if_pos hlt] at hu
          simp only [Array.getElem?_toList] at hu
          rw [hu] at hc
          rw [Option.some.inj hc]
          exact q7 i j s hi hs
    obtain ⟨o1, o2, o3⟩ := hold
    refine grown_RO l2 k2.1 ?_ hnt h1all x5 x6 (fun i hi => by rw [hf1 i (by omega)]; exact o2 i hi) (fun j hj => ?_) (fun i j s u hi hs hu => ?_) (fun i j s u hi hs hu => ?_)
    · rw [andT_den, cmpT_den, l3]
      simp only [cmpDen, ST.den, r1, Bool.and_eq_true, beq_iff_eq]
      rw [o1]
      constructor
      · rintro ⟨h1, h2⟩; exact ⟨h1, by omega⟩
      · rintro ⟨h1, h2⟩; exact ⟨h1, by omega⟩
    · rw [hf' (nn + j) j (by omega) (by omega)]; exact r4 j hj
    · rw [hf1 i (by omega)] at hs
      exact (o3 i j s u hi hs hu).mono x1.I x1.cell
    · rw [hf' (nn + i) i (by omega) (by omega)] at hs
      exact (r5 i j s u hi hs hu).mono x1.I x1.cell
  · obtain ⟨a0, c0, rfl⟩ := l5
    exact ⟨a0, nn + k, c0, x4, by rw [hnt]; exact Int.le_refl _, fun _ => rfl⟩

end
end Go.Sx
/- Rows: made, built, written, copied. -/
namespace Go.Sx
open Go

theorem Rel.plainOne {E : Env} {w : World} {s : SV} {v : Value} (h : Rel E w s v) (hp : plainV s = true) (h1 : v.oneCell' = true) : RO E.I w s v := by
  cases h with
  | ro h => exact h
  | ptr hb hv => simp [plainV] at hp
  | gsl hr ht => simp [plainV] at hp
  | mrow hb hm hv => simp [plainV] at hp
  | mptr hb hz hv => simp [plainV] at hp
  | osl ht hk => simp [plainV] at hp
  | optr hv ho => simp [plainV] at hp
  | agg hl _ => simp [Value.oneCell'] at h1
  | tup hl _ => simp [Value.oneCell'] at h1
  | clo hl _ => simp [plainV] at hp

section
variable {P : Program} {cx : Cx} {σ : Sy} {T : List Nat} {o : Oper} {K : Out → Prop}

theorem chunks_get {sz : Nat} : ∀ (n i : Nat) (cs r : List SV), (chunks sz n cs)[i]? = some r → r = takeN sz (dropN (i * sz) cs)
  | 0, i, cs, r, h => by simp [chunks] at h
  | n + 1, 0, cs, r, h => by simp [chunks] at h; rw [← h]; simp [dropN_eq]
  | n + 1, i + 1, cs, r, h => by
    simp only [chunks, List.getElem?_cons_succ] at h
    rw [chunks_get n i _ r h]
    simp only [dropN_eq, List.drop_drop, Nat.add_mul, Nat.one_mul]
    congr 2; omega

theorem repN_get {z : List SV} : ∀ (n q : Nat), q < n * z.length → (stepBuildSlice.repN n z)[q]? = z[q % z.length]?
  | 0, q, h => by omega
  | n + 1, q, h => by
    simp only [stepBuildSlice.repN]
    by_cases hq : q < z.length
    · rw [List.getElem?_append_left hq, Nat.mod_eq_of_lt hq]
    · have h' : q < n * z.length + z.length := by rw [← Nat.succ_mul]; exact h
      rw [List.getElem?_append_right (by omega), repN_get n (q - z.length) (by omega), (Nat.mod_eq_sub_mod (show q ≥ z.length by omega))]
theorem repN_len {z : List SV} : ∀ (n : Nat), (stepBuildSlice.repN n z).length = n * z.length
  | 0 => by simp [stepBuildSlice.repN]
  | n + 1 => by simp [stepBuildSlice.repN, repN_len n, Nat.add_mul]; omega

theorem fillS_sound {E : Env} {w : World} {sz : Nat} : ∀ (vs : List (Nat × SV)) (us : List (Nat × Value)) (cs cs' : List SV) (C : List Value), vs.length = us.length → (∀ (i : Nat) (p : Nat × SV) (q : Nat × Value), vs[i]? = some p → us[i]? = some q → p.1 = q.1 ∧ Rel E w p.2 q.2) → (∀ p ∈ vs, onesB p.2.cells = true) → RelL E w cs C → (∀ u ∈ C, u.oneCell' = true) →
      stepBuildSlice.fillS sz cs vs = some cs' → ∃ C', Instr.fill (fun i => some (i * sz, sz)) ⟨C⟩ us = some ⟨C'⟩ ∧ RelL E w cs' C' ∧ ∀ u ∈ C', u.oneCell' = true
  | [], us, cs, cs', C, hlen, _, _, hr, h1, h => by
    have : us = [] := List.eq_nil_of_length_eq_zero (by simpa using hlen.symm)
    subst this
    simp [stepBuildSlice.fillS] at h
    subst h
    exact ⟨C, rfl, hr, h1⟩
  | (i, v) :: vs, us, cs, cs', C, hlen, hrel, h1, hr, hone, h => by
    match us, hlen, hrel with
    | (i', u) :: us, hlen, hrel =>
      obtain ⟨e0, hvu⟩ := hrel 0 (i, v) (i', u) rfl rfl
      simp only at e0
      subst e0
      have hcells := cells_of (h1 _ (List.mem_cons_self ..)) hvu
      simp only [stepBuildSlice.fillS] at h
      split at h
      · rename_i hb
        simp only [Bool.and_eq_true, beq_iff_eq, lenN_eq] at hb
        obtain ⟨b1, b2⟩ := hb
        have b2 := Nat.le_of_ble_eq_true b2
        have hsz : u.cells.size = sz := by rw [← b1, hcells.1]; simp
        rw [fill_step rfl hsz (by rw [← hr.1]; exact b2)]
        refine fillS_sound vs us _ cs' _ (by simpa using hlen) (fun j p q a b => hrel (j + 1) p q (by simpa using a) (by simpa using b)) (fun p hp => h1 p (List.mem_cons_of_mem _ hp)) (putRel hr hcells _ (by show i * sz + v.cells.length ≤ cs.length; omega)) ?_ h
        intro x hx
        obtain ⟨q, hq⟩ := List.mem_iff_getElem?.1 hx
        rw [get_putN _ _ _ _ (by rw [← hcells.1, ← hr.1]; show i * sz + v.cells.length ≤ cs.length; omega)] at hq
        split at hq
        · exact ones_of (h1 _ (List.mem_cons_self ..)) hcells x (List.mem_of_getElem? hq)
        · exact hone x (List.mem_of_getElem? hq)
      · cases h

theorem local_buildSlice (hc : CxOk P cx) {t len e : Nat} {ps : Array (Nat × Operand)} (ho : o.op = .buildSlice t len ps) {ti te : TI} (hlt : look t cx.tt = some ti) (hk : ti.k = .slice e) (hle : look e cx.tt = some te) {vs : List (Nat × SV)} (hv : rdParts cx σ T ps.toList = some vs) (h1 : onesP vs = true)
    {cs : List SV} (hf : stepBuildSlice.fillS te.size (stepBuildSlice.repN len te.zero) vs = some cs) (hpl : plainV (.agg (loose.looseL (norm.normL dn cs))) = true) (hz : 0 < te.size) (hbig : len * te.size ≤ 16777216) :
    Local P cx.gl σ T o ⟨.gsl (.l false) (.l len) te.size (fun k => takeN te.size (dropN (k * te.size) (loose.looseL (norm.normL dn cs)))) (lenN σ.hp), [.put (lenN σ.hp) (.tail e (.l len) te.size)], [], []⟩ := by
  intro B N E a w ff hf' hg st ag agh hT K' Q hK
  have hag : ∀ p ∈ ps.toList, ∀ s ∈ opSlots p.2, ff s = ffOf σ s := fun p hp => ag_of ag (by simp only [ho, Op.operands]; simp; exact ⟨p.1, by simpa using hp⟩)
  obtain ⟨h2, h3⟩ := rdParts_sound hg st hT ps.toList vs hag hv
  obtain ⟨z, hzr, hzrel, hz1⟩ := (hc.ti hle).zero E w
  have hzl := (hc.ti hle).zlen
  have hzsz : z.cells.size = te.size := by have := hzrel.1; rw [hzl] at this; simpa using this.symm
  have hus : ∀ (j : Nat) (p : Nat × SV) (q : Nat × Value), vs[j]? = some p → ((ps.map fun (x : Nat × Operand) => (x.1, a.eval x.2)).toList)[j]? = some q → p.1 = q.1 ∧ Rel E w p.2 q.2 := by
    intro j p q hp hq
    rw [Array.toList_map, List.getElem?_map] at hq
    cases hpj : ps.toList[j]? with
    | none => rw [hpj] at hq; cases hq
    | some x =>
      rw [hpj] at hq
      simp only [Option.map_some, Option.some.injEq] at hq
      subst hq
      exact h3 j p x hp hpj
  -- the zero cells
  let C0 : List Value := (List.range (len * te.size)).map fun q => z.cells.toList.getD (q % te.size) undef
  have hC0 : RelL E w (stepBuildSlice.repN len te.zero) C0 := by
    refine ⟨by rw [repN_len, hzl]; simp [C0], fun i s v hs hv => ?_⟩
    have hlt : i < len * te.size := by
      have := (List.getElem?_eq_some_iff.1 hs).1
      rwa [repN_len, hzl] at this
    rw [repN_get _ _ (by rw [hzl]; exact hlt), hzl] at hs
    simp [C0, hlt] at hv
    have hm : i % te.size < z.cells.size := by rw [hzsz]; exact Nat.mod_lt _ hz
    refine hzrel.2 (i % te.size) s v hs ?_
    rw [← hv]
    simp [hm]
  have hC01 : ∀ u ∈ C0, u.oneCell' = true := by
    intro u hu
    simp only [C0, List.mem_map, List.mem_range] at hu
    obtain ⟨q, _, rfl⟩ := hu
    have hm : q % te.size < z.cells.toList.length := by simp [hzsz]; exact Nat.mod_lt _ hz
    rw [List.getD_eq_getElem?_getD, List.getElem?_eq_getElem hm]
    exact hz1 _ (List.getElem_mem hm)
  obtain ⟨C', c1, c2, c3⟩ := fillS_sound vs (ps.map fun (x : Nat × Operand) => (x.1, a.eval x.2)).toList _ cs C0 (by simp [h2]) hus (onesP_get h1) hC0 hC01 hf
  have hlen' : C'.length = len * te.size := by
    rw [← c2.1]
    have : ∀ (vs : List (Nat × SV)) (cs cs' : List SV), stepBuildSlice.fillS te.size cs vs = some cs' → cs'.length = cs.length := by
      intro vs
      induction vs with
      | nil => intro cs cs' h; simp [stepBuildSlice.fillS] at h; rw [h]
      | cons p vs ih =>
        intro cs cs' h
        obtain ⟨i, v⟩ := p
        simp only [stepBuildSlice.fillS] at h
        split at h
        · rw [ih _ _ h, len_putN]
        · cases h
    rw [this vs _ cs hf, repN_len, hzl]
  have hrun : (Instr.buildSlice t len (ps.map fun (x : Nat × Operand) => (x.1, a.eval x.2))).run P w = .ok (.slice (some ⟨w.heap.size, 0, none⟩) len len) (w.alloc (.cells ⟨C'⟩ e)) := by
    have hu := (hc.ti hlt).slice hk
    have hS := (hc.ti hle).sizeOf w
    have harr : ((Array.range (len * te.size)).map (fun q => z.cells[q % z.cells.size]!)) = (⟨C0⟩ : Array Value) := by
      apply Array.ext'
      simp only [Array.toList_map, Array.toList_range, C0]
      refine List.map_congr_left fun q _ => ?_
      rw [hzsz, List.getD_eq_getElem?_getD, Array.getElem!_eq_getD, Array.getD_eq_getD_getElem?, Array.getElem?_toList]
      have hm : q % te.size < z.cells.size := by rw [hzsz]; exact Nat.mod_lt _ hz
      simp [hm]
    have hbig' : ¬ (16777216 < len * te.size) := by omega
    simp only [Instr.buildSlice, Sem.run_bind, run_underlying hu, Result.andThen_ok, hS, gt_iff_lt]
    by_cases h0 : len * te.size = 0
    · have hC0n : C0 = [] := by simp [C0, h0]
      rw [hC0n] at c1
      rw [Array.toList_map] at c1
      have hemp : Array.map (fun _ => (default : Value)) (Array.range 0) = ⟨[]⟩ := by simp
      simp [h0, newRow, newObj]
      first | rw [hemp, c1] | (simp at c1 ⊢; rw [c1])
      simp [Sem.run]
    · rw [Array.toList_map] at c1
      simp [h0, hbig', hzr, harr, newRow, newObj]
      rw [c1]
      simp [Sem.run]
  have hfresh : hf' (lenN σ.hp) = .fresh := by
    have := agh.efs _ (List.mem_singleton.2 rfl)
    simp only [AgE, hfOf, nth_eq, lenN_eq] at this
    rw [lenN_eq, this]; simp
  have hmax : len ≤ maxLen := by
    simp only [maxLen]
    have : len ≤ len * te.size := Nat.le_mul_of_pos_right _ hz
    omega
  have hown' := World.ownsRow_lit w (base := 0) (e := e) (size := te.size) ⟨C'⟩ len (Nat.zero_le _) hmax (by simpa using hlen')
  obtain ⟨E', x1, x2, x3, x4, x5, x6⟩ := put_tail (h := lenN σ.hp) (e := e) (sz := te.size) (n := 0) (m := len) (xs := []) (news := C') st (.inl ⟨hfresh, rfl⟩) (by simpa using c3) (World.ownsRow_nil w 0 e te.size) (by simpa using hown') (.inr ⟨rfl, World.grownBy_alloc w _ none⟩) ⟨_, _, by simp; exact ⟨rfl, rfl⟩⟩ (fun h => absurd hfresh h) (.l len) (by simp [ST.den])
  unfold Oper.wp
  have : (execOp a.eval o).run P w = .ok (.value (.slice (some ⟨w.heap.size, 0, none⟩) len len)) (w.alloc (.cells ⟨C'⟩ e)) := by
    simp only [execOp, ho, Sem.run_bind]
    rw [hrun]
    rfl
  rw [this]
  -- what it reads as
  have hpc : ∀ c ∈ loose.looseL (norm.normL dn cs), plainV c = true := by
    simp only [plainV] at hpl
    exact (plainL_iff _).1 hpl
  have hcells : RelL E w (loose.looseL (norm.normL dn cs)) C' := by
    rw [looseL_eq, normL_eq]
    exact (c2.map _ fun s v _ h => h.norm).map _ fun s v _ h => h.loose
  have hget : ∀ (i j : Nat) (s : SV), (takeN te.size (dropN (i * te.size) (loose.looseL (norm.normL dn cs))))[j]? = some s → (loose.looseL (norm.normL dn cs))[i * te.size + j]? = some s := by
    intro i j s hs
    rw [takeN_eq, dropN_eq, List.getElem?_take] at hs
    split at hs
    · rwa [List.getElem?_drop] at hs
    · cases hs
  refine hK _ _ E' x1 x2 x3 (.gsl ?_ ⟨_, len, _, x4, by simp [ST.den], fun _ => rfl⟩)
  refine grown_RO (n := 0) (m := len) (xs := []) (news := C') (by simpa using hown') (by simp) (by simp [BT.den]) (by simp [ST.den]) (by simpa using c3) x5 x6 (by intro i hi; omega) (fun j hj => ?_) (by intro i j s u hi; omega) (fun i j s u hi hs hu => ?_)
  · rw [takeN_eq, dropN_eq, List.length_take, List.length_drop, hcells.1, hlen', Nat.zero_add]
    have : (j + 1) * te.size ≤ len * te.size := Nat.mul_le_mul_right _ hj
    rw [Nat.add_mul] at this
    omega
  · rw [Nat.zero_add] at hs
    have hs' := hget i j s hs
    exact (((hcells.2 _ s u hs' hu).plainOne (hpc s (List.mem_of_getElem? hs')) (c3 u (List.mem_of_getElem? hu)))).mono x1.I x1.cell

end
end Go.Sx
/- Rows: made, written, copied; their elements; parts of slices. -/
namespace Go.Sx
open Go

theorem Rel.mrow_inv {E : Env} {w : World} {h : Nat} {v : Value} (hr : Rel E w (.mrow h) v) : ∃ b m, E.β h = some b ∧ E.κ h = some m ∧ v = .slice (some ⟨b, 0, none⟩) m m := by
  cases hr with
  | ro h => cases h
  | mrow hb hm hv => exact ⟨_, _, hb, hm, hv⟩
theorem Rel.mptr_inv {E : Env} {w : World} {h j off : Nat} {v : Value} (hr : Rel E w (.mptr h j off) v) : ∃ b sz, E.β h = some b ∧ E.ζ h = some sz ∧ v = .pointer (some ⟨b, j * sz + off, none⟩) := by
  cases hr with
  | ro h => cases h
  | mptr hb hz hv => exact ⟨_, _, hb, hz, hv⟩

/-- A row comes. -/
theorem new_row {B : Bs} {N : Nat} {E : Env} {a : Act} {w w' : World} {ff : Nat → SG} {hf : Nat → Hl} (st : St B N E a w ff hf) {h : Nat} (hfresh : hf h = .fresh) {ty : TypeId} {n : ST} {sz m : Nat} {f : Nat → List SV} {C : Array Value}
    (hg : w.grownBy w' none) (hC : w'.heap[w.heap.size]? = some (.cells C ty (0, 0))) (hn : n.den = (m : Int)) (hm : m ≤ maxLen) (hrow : rowIs E w f m sz C) :
    ∃ E', Ext E w E' w' ∧ Base B E' w' ∧ (∀ k, HOk E' w' k (upd hf h (.row ty n sz f) k)) ∧ E'.β h = some w.heap.size ∧ E'.κ h = some m ∧ E'.ζ h = some sz := by
  have hb := st.base
  have hfr := st.heap h
  rw [hfresh] at hfr
  obtain ⟨f1, f2, f3, f4⟩ := hfr
  let E' : Env := ⟨upd E.β h (some w.heap.size), E.τ, upd E.O w.heap.size (some h), upd E.κ h (some m), upd E.ζ h (some sz), E.I⟩
  have hold : ∀ b, b < w.heap.size → w'.heap[b]? = w.heap[b]? := fun b hlt => hg.block b hlt (by simp)
  have hltnew : w.heap.size < w'.heap.size := (Array.getElem?_eq_some_iff.1 hC).1
  have updNone : ∀ {α : Type} (F : Nat → Option α) (x : α) (k : Nat) (y : α), F h = none → F k = some y → upd F h (some x) k = some y := by
    intro α F x k y h0 hk
    unfold upd
    by_cases e : k = h
    · subst e; rw [h0] at hk; cases hk
    · rw [if_neg e]; exact hk
  have hx : Ext E w E' w' := by
    refine ⟨fun k b hk => updNone _ _ k b f1 hk, fun _ _ h => .inl h, fun k b hk => updNone _ _ k b f3 hk, fun k b hk => updNone _ _ k b f4 hk, fun _ _ h => h, fun b o hi => ?_⟩
    simp only [World.cell?]
    rw [hold b (hb.Ibd b o hi)]
  refine ⟨E', hx, ⟨hg.os.trans hb.os, hg.tape.trans hb.tape, hg.output.trans hb.output, ?_, ?_, ?_, ?_, ?_, ?_, hb.β0.ext hx⟩, fun k => ?_, by simp [E', upd], by simp [E', upd], by simp [E', upd]⟩
  · have := hb.size; omega
  · intro b hlt hX; rw [hold b (by have := hb.size; omega)]; exact hb.old b hlt hX
  · intro b o hi
    obtain ⟨i1, i2⟩ := hb.I0 b o hi
    exact ⟨i1, by rw [hx.cell b o i1]; exact i2⟩
  · intro b o hi; have := hb.Ibd b o hi; omega
  · exact hb.Inew
  · intro b k hO
    have hO : upd E.O w.heap.size (some h) b = some k := hO
    unfold upd at hO
    split at hO
    · rename_i e; subst e; have := hb.size; exact ⟨hltnew, .inl this⟩
    · obtain ⟨o1, o2⟩ := hb.Obd b k hO; exact ⟨by omega, o2⟩
  · by_cases e : k = h
    · subst e
      simp only [upd, if_pos]
      refine ⟨w.heap.size, C, m, by simp [E', upd], by simp [E', upd], by simp [E', upd], by simp [E', upd], hC, hn, hm, ⟨hrow.1, hrow.2.1, fun i j s v a b c => (hrow.2.2.1 i j s v a b c).mono hx.I hx.cell, hrow.2.2.2⟩, fun o hi => ?_⟩
      have := hb.Ibd _ _ hi
      omega
    · simp only [upd, if_neg e]
      refine HOk.keep hx (st.heap k) (by simp [E', upd, e]) rfl (by simp [E', upd, e]) (by simp [E', upd, e]) fun b hO => ?_
      have hlt := owned_lt hb hO
      exact ⟨by simp [E', upd, Nat.ne_of_lt hlt]; exact hO, hold b hlt, fun _ h => h⟩

/-- A row's block is written. -/
theorem set_row {B : Bs} {N : Nat} {E : Env} {a : Act} {w : World} {ff : Nat → SG} {hf : Nat → Hl} (st : St B N E a w ff hf) {h b m : Nat} {ty : TypeId} {n : ST} {sz : Nat} {f f' : Nat → List SV} {C C' : Array Value}
    (hh : hf h = .row ty n sz f) (hβ : E.β h = some b) (hκ : E.κ h = some m) (hC : w.heap[b]? = some (.cells C ty (0, 0))) (hrow : rowIs E w f' m sz C') :
    Ext E w E (w.setRow b C') ∧ Base B E (w.setRow b C') ∧ (∀ k, HOk E (w.setRow b C') k (upd hf h (.row ty n sz f') k)) := by
  have hb := st.base
  have hk := st.heap h
  rw [hh] at hk
  obtain ⟨b', C1, m', k1, k2, k3, k4, k5, k6, k7, k8, k9⟩ := hk
  obtain rfl : b = b' := Option.some.inj (hβ.symm.trans k1)
  obtain rfl : m = m' := Option.some.inj (hκ.symm.trans k2)
  have hx : Ext E w E (w.setRow b C') := ⟨fun _ _ h => h, fun _ _ h => .inl h, fun _ _ h => h, fun _ _ h => h, fun _ _ h => h, fun b2 o hi => cell_setRow_other w b C' ⟨b2, o, none⟩ (fun e => by subst e; exact k9 o hi)⟩
  have hX := (hb.Obd b h k4).2
  refine ⟨hx, ⟨hb.os, hb.tape, hb.output, by simpa using hb.size, ?_, ?_, ?_, hb.Inew, ?_, hb.β0⟩, fun k => ?_⟩
  · intro b2 hlt hnX
    by_cases e : b2 = b
    · subst e; rcases hX with hX | hX
      · omega
      · exact absurd hX hnX
    · rw [setRow_other w b b2 C' e]; exact hb.old b2 hlt hnX
  · intro b2 o hi
    obtain ⟨i1, i2⟩ := hb.I0 b2 o hi
    exact ⟨i1, by rw [hx.cell b2 o i1]; exact i2⟩
  · intro b2 o hi; have := hb.Ibd b2 o hi; simpa using this
  · intro b2 k hO; have := hb.Obd b2 k hO; simpa using this
  · by_cases e : k = h
    · subst e
      simp only [upd, if_pos]
      exact ⟨b, C', m, hβ, hκ, k3, k4, setRow_heap w b C C' ty (0, 0) hC, k6, k7, ⟨hrow.1, hrow.2.1, fun i j s v a b c => (hrow.2.2.1 i j s v a b c).mono hx.I hx.cell, hrow.2.2.2⟩, k9⟩
    · simp only [upd, if_neg e]
      refine HOk.keep hx (st.heap k) rfl rfl rfl rfl fun b2 hO => ⟨hO, ?_, fun _ h => h⟩
      refine setRow_other w b b2 C' (fun e2 => ?_)
      subst e2
      rw [k4] at hO
      exact e (Option.some.inj hO).symm

section
variable {P : Program} {cx : Cx} {σ : Sy} {T : List Nat} {o : Oper} {K : Out → Prop}

theorem local_nilCheck {x : Operand} (ho : o.op = .nilCheck x) {v : SV} (hv : rd cx σ T x = some v) (hp : (∃ h off, v = .ptr h off) ∨ (∃ cs, v = .rptr cs) ∨ (∃ h j off, v = .mptr h j off) ∨ (∃ n sz f, v = .rarr n sz f) ∨ ∃ n h j off, v = .optr n h j off) : Local P cx.gl σ T o ⟨v, [], [], []⟩ := by
  intro B N E a w ff hf' hg st ag agh hT
  have hr := rd_sound hv hg st (ag_of ag (by simp [ho, Op.operands])) hT
  have : ∃ ad, a.eval x = .pointer (some ad) := by
    rcases hp with ⟨h, off, rfl⟩ | ⟨cs, rfl⟩ | ⟨h, j, off, rfl⟩ | ⟨n, sz, f, rfl⟩ | ⟨n, h, j, off, rfl⟩
    · obtain ⟨b, _, e⟩ := hr.ptr_inv; exact ⟨_, e⟩
    · obtain ⟨ad, e, _⟩ := hr.rptr_inv.rptr_inv; exact ⟨_, e⟩
    · obtain ⟨b, sz, _, _, e⟩ := hr.mptr_inv; exact ⟨_, e⟩
    · have hx : RO E.I w (.rarr n sz f) (a.eval x) := by cases hr with | ro h => exact h
      generalize a.eval x = ev at hx
      cases hx; exact ⟨_, rfl⟩
    · obtain ⟨⟨b, o, e⟩, _⟩ := hr.optr_inv; exact ⟨_, e⟩
  obtain ⟨ad, e⟩ := this
  exact yields_value st (v := a.eval x) (by simp [execOp, ho, e]) rfl hr

theorem fresh_of {hf' : Nat → Hl} {r : Out} {hl : Hl} (agh : AgH σ.hp hf' r) (hm : Ef.put (lenN σ.hp) hl ∈ r.efs) : hf' (lenN σ.hp) = .fresh := by
  have := agh.efs _ hm
  simp only [AgE, hfOf, nth_eq, lenN_eq] at this
  rw [lenN_eq, this]; simp

theorem local_make0 (hc : CxOk P cx) {t e : Nat} {x y : Operand} (ho : o.op = .makeSlice t x y) {ti te : TI} (hlt : look t cx.tt = some ti) (hk : ti.k = .slice e) (hle : look e cx.tt = some te) {kl kc : IntKind} {c : ST} (hx : rd cx σ T x = some (.int kl (.l 0))) (hy : rd cx σ T y = some (.int kc c))
    (hob : allT (condsOf σ.gm T) → 0 ≤ c.den ∧ c.den * te.bytes ≤ 140737488355328 ∧ c.den ≤ 9223372036854775807) :
    Local P cx.gl σ T o ⟨.gsl (.l false) (.l 0) te.size (fun _ => []) (lenN σ.hp), [.put (lenN σ.hp) (.tail e (.l 0) te.size)], [], []⟩ := by
  intro B N E a w ff hf' hg st ag agh hT K' Q hK
  have hrx := (rd_sound hx hg st (ag_of ag (by simp [ho, Op.operands])) hT).int_inv
  have hry := (rd_sound hy hg st (ag_of ag (by simp [ho, Op.operands])) hT).int_inv
  obtain ⟨o1, o2, o3⟩ := hob hT
  obtain ⟨i, z, hi, hsize, hby, hz, hzs⟩ := (hc.ti hle).info
  have hu := (hc.ti hlt).slice hk
  have hcn : c.den = ((c.den.toNat : Nat) : Int) := by omega
  have hbytes : i.bytes * c.den.toNat ≤ 281474976710656 := by
    rw [hby]
    have : ((te.bytes * c.den.toNat : Nat) : Int) ≤ 140737488355328 := by
      rw [Int.natCast_mul, ← hcn, Int.mul_comm]; exact o2
    omega
  obtain ⟨w', r1, r2, r3⟩ := run_make_own (P := P) w 0 t e i z te.size hu hi hz hsize kl kc c.den.toNat hbytes (by simp only [maxLen]; omega) (Nat.zero_le _)
  have hfresh := fresh_of agh (List.mem_singleton.2 rfl)
  obtain ⟨E', x1, x2, x3, x4, x5, x6⟩ := put_tail (h := lenN σ.hp) (e := e) (sz := te.size) (n := 0) (m := 0) (xs := []) (news := []) st (.inl ⟨hfresh, rfl⟩) (by simp) (World.ownsRow_nil w 0 e te.size) (by simpa using r2) (.inr ⟨rfl, r3⟩) ⟨_, _, rfl⟩ (fun h => absurd hfresh h) (.l 0) (by simp [ST.den])
  unfold Oper.wp
  have : (execOp a.eval o).run P w = .ok (.value (.slice (some ⟨w.heap.size, 0, none⟩) 0 c.den.toNat)) w' := by
    simp only [execOp, ho, Sem.run_bind, hrx, hry, ST.den]
    rw [hcn, r1]
    rfl
  rw [this]
  refine hK _ _ E' x1 x2 x3 (.gsl ?_ ⟨_, 0, _, x4, by simp [ST.den], fun _ => rfl⟩)
  exact grown_RO (n := 0) (m := 0) (xs := []) (news := []) (by simpa using r2) (by simp) (by simp [BT.den]) (by simp [ST.den]) (by simp) x5 x6 (by intro i hi; omega) (by intro j hj; omega) (by intro i j s u hi; omega) (by intro i j s u hi; omega)

theorem local_makeN (hc : CxOk P cx) {t e : Nat} {x y : Operand} (ho : o.op = .makeSlice t x y) {ti te : TI} (hlt : look t cx.tt = some ti) (hk : ti.k = .slice e) (hle : look e cx.tt = some te) {kl kc : IntKind} {n n' : ST} (hx : rd cx σ T x = some (.int kl n)) (hy : rd cx σ T y = some (.int kc n')) (hsame : x = y) (hz0 : 0 < te.size)
    (hob : allT (condsOf σ.gm T) → 0 ≤ n.den ∧ n.den * te.bytes ≤ 140737488355328 ∧ n.den ≤ 9223372036854775807) :
    Local P cx.gl σ T o ⟨.mrow (lenN σ.hp), [.put (lenN σ.hp) (.row e (.a n.den) te.size fun _ => te.zero)], [], []⟩ := by
  subst hsame
  intro B N E a w ff hf' hg st ag agh hT K' Q hK
  have hrx := (rd_sound hx hg st (ag_of ag (by simp [ho, Op.operands])) hT).int_inv
  obtain ⟨o1, o2, o3⟩ := hob hT
  obtain ⟨i, z, hi, hsize, hby, hz, hzs⟩ := (hc.ti hle).info
  have hu := (hc.ti hlt).slice hk
  have hcn : n.den = ((n.den.toNat : Nat) : Int) := by omega
  have hbytes : i.bytes * n.den.toNat ≤ 281474976710656 := by
    rw [hby]
    have : ((te.bytes * n.den.toNat : Nat) : Int) ≤ 140737488355328 := by
      rw [Int.natCast_mul, ← hcn, Int.mul_comm]; exact o2
    omega
  have hmax : n.den.toNat ≤ maxLen := by simp only [maxLen]; omega
  obtain ⟨w', r1, r2, r3⟩ := run_make_full (P := P) w 0 t e i z te.size hu hi hz hsize kl kl n.den.toNat hbytes hmax (Nat.zero_le _)
  have hfresh := fresh_of agh (List.mem_singleton.2 rfl)
  obtain ⟨hxl, hr2⟩ := r2
  rcases hr2 with ⟨h0, _⟩ | ⟨g, cap, cur, e0, _, hcur, hnc, hcm, hcs, htake⟩
  · cases h0
  simp only [Value.slice.injEq, Option.some.injEq, Addr.mk.injEq, and_true, true_and] at e0
  obtain ⟨rfl, hcap⟩ := e0
  subst hcap
  have hcur' : cur = madeCells z.cells (n.den.toNat * te.size) := by
    apply Array.ext'
    rw [← htake, List.take_of_length_le]
    simp [hcs]
  have hzl := (hc.ti hle).zlen
  have hzg := zsB_get (I := E.I) (w := w) hzs
  have hrow : rowIs E w (fun _ => te.zero) n.den.toNat te.size cur := by
    have hzsz : z.cells.size = te.size := by have := hzg.1; rw [hzl] at this; simpa using this.symm
    have hget : ∀ (q : Nat) (v : Value), cur[q]? = some v → z.cells[q % te.size]? = some v := by
      intro q v hq
      have hqlt : q < n.den.toNat * te.size := by rw [← hcs]; exact (Array.getElem?_eq_some_iff.1 hq).1
      rw [hcur'] at hq
      have hm : q % te.size < z.cells.size := by rw [hzsz]; exact Nat.mod_lt _ hz0
      have hne : n.den.toNat * te.size ≠ 0 := by omega
      have hne1 : n.den.toNat ≠ 0 := fun h => by rw [h] at hne; simp at hne
      have hne2 : te.size ≠ 0 := by omega
      simp [madeCells, hne1, hne2, hqlt, hzsz, hm, Array.getElem?_map, Array.getElem?_range] at hq
      rw [← hq]
      simp [hm]
    refine ⟨hcs, fun _ _ => hzl, fun i j s v hi' hs hv => ?_, fun v hv => ?_⟩
    · have hj : j < te.size := by rw [← hzl]; exact (List.getElem?_eq_some_iff.1 hs).1
      have := hget _ v hv
      rw [Nat.mul_comm, Nat.mul_add_mod, Nat.mod_eq_of_lt hj] at this
      exact hzg.2 j s v hs (by simpa using this)
    · obtain ⟨q, hq, rfl⟩ := Array.mem_iff_getElem.1 hv
      have h1 := hget q _ (Array.getElem?_eq_getElem hq)
      have hm : q % te.size < te.zero.length := by rw [hzl]; exact Nat.mod_lt _ hz0
      have : zB (te.zero[q % te.size]) cur[q] = true := by
        have key : ∀ (ss : List SV) (vs : List Value) (k : Nat) (s : SV) (v : Value), zsB ss vs = true → ss[k]? = some s → vs[k]? = some v → zB s v = true := by
          intro ss
          induction ss with
          | nil => intro vs k s v _ h; simp at h
          | cons s0 ss ih =>
            intro vs k s v h h1 h2
            cases vs with
            | nil => simp at h2
            | cons v0 vs =>
              simp only [zsB, Bool.and_eq_true] at h
              cases k with
              | zero => simp at h1 h2; subst h1; subst h2; exact h.1
              | succ k => simp at h1 h2; exact ih vs k s v h.2 h1 h2
        exact key _ _ _ _ _ hzs (List.getElem?_eq_getElem hm) (by simpa using h1)
      exact zB_one this
  obtain ⟨E', x1, x2, x3, x4, x5, x6⟩ := new_row st hfresh (n := .a n.den) (m := n.den.toNat) r3 hcur hcn hmax hrow
  unfold Oper.wp
  have : (execOp a.eval o).run P w = .ok (.value (.slice (some ⟨w.heap.size, 0, none⟩) n.den.toNat n.den.toNat)) w' := by
    simp only [execOp, ho, Sem.run_bind, hrx]
    rw [hcn]
    simp only [Int.toNat_natCast] at r1 ⊢
    rw [r1]
    rfl
  rw [this]
  exact hK _ _ E' x1 x2 x3 (.mrow x4 x5 rfl)

end
end Go.Sx
/- Rows: elements, copies; parts of slices and strings. -/
namespace Go.Sx
open Go

section
variable {P : Program} {cx : Cx} {σ : Sy} {T : List Nat} {o : Oper} {K : Out → Prop}

theorem row_same {hf' : Nat → Hl} {r : Out} {h : Nat} {hl : Hl} (agh : AgH σ.hp hf' r) (hm : h ∈ r.rds) (hh : nth σ.hp h = some hl) : hf' h = hl := by
  rw [agh.rds h hm, nth_hf hh]

theorem local_len_row (hc : CxOk P cx) {c : Call} (ho : o.op = .call c) (hcal : c.callee = .builtin .len) {x : Operand} {t : Nat} {ti : TI} (hx : c.args.toList = [x]) (ht : c.argTypes.toList = [t]) (hl : look t cx.tt = some ti) {e : TypeId} (hk : ti.k = .slice e)
    {h ty sz : Nat} {n : ST} {f : Nat → List SV} (hv : rd cx σ T x = some (.mrow h)) (hh : nth σ.hp h = some (.row ty n sz f)) : Local P cx.gl σ T o ⟨.int .i64 n, [], [h], []⟩ := by
  intro B N E a w ff hf' hg st ag agh hT
  have hmem : x ∈ o.op.operands.toList := by simp [ho, Op.operands, Call.operands, hcal, hx]
  obtain ⟨b, m, hb, hm, e3⟩ := (rd_sound hv hg st (ag_of ag hmem) hT).mrow_inv
  have e1 : c.args = #[x] := Array.ext' (by simpa using hx)
  have e2 : c.argTypes = #[t] := Array.ext' (by simpa using ht)
  have hk' := st.heap h
  rw [row_same agh (List.mem_singleton.2 rfl) hh] at hk'
  obtain ⟨b', C, m', k1, k2, k3, k4, k5, k6, k7, k8, k9⟩ := hk'
  obtain rfl : m = m' := Option.some.inj (hm.symm.trans k2)
  have hrun := run_len_any hc hl hk (w := w) (a := some ⟨b, 0, none⟩) (m := m) (c := m) (ty := o.type)
  refine yields_value st (v := .int .i64 m) ?_ rfl (.int k6)
  simp [execOp, ho, resolve, hcal, e1, e2, invoke, builtin, e3, hrun]

theorem local_index_row (hc : CxOk P cx) {t e sz : Nat} {ti : TI} (hl : look t cx.tt = some ti) (hk : ti.k = .slice e) (hn : size? cx e = some sz) {x y : Operand} (ho : o.op = .indexAddr t x y) {h ty : Nat} {n : ST} {f : Nat → List SV} {k : IntKind} {i : ST}
    (hv : rd cx σ T x = some (.mrow h)) (hh : nth σ.hp h = some (.row ty n sz f)) (hi : rd cx σ T y = some (.int k i)) (h1 : allT (condsOf σ.gm T) → 0 ≤ i.den ∧ i.den < n.den) : Local P cx.gl σ T o ⟨.mptr h i.den.toNat 0, [], [h], []⟩ := by
  intro B N E a w ff hf' hg st ag agh hT
  obtain ⟨b, m, hb, hm, e3⟩ := (rd_sound hv hg st (ag_of ag (by simp [ho, Op.operands])) hT).mrow_inv
  have hy := (rd_sound hi hg st (ag_of ag (by simp [ho, Op.operands])) hT).int_inv
  obtain ⟨b1, b2⟩ := h1 hT
  have hk' := st.heap h
  rw [row_same agh (List.mem_singleton.2 rfl) hh] at hk'
  obtain ⟨b', C, m', k1, k2, k3, k4, k5, k6, k7, k8, k9⟩ := hk'
  obtain rfl : m = m' := Option.some.inj (hm.symm.trans k2)
  have hrun := run_indexAt_sl hc hl hk hn (w := w) (a := ⟨b, 0, none⟩) (m := m) (cap := m) (k := k) b1 (show i.den < (m : Int) by omega)
  refine yields_value st (v := .pointer (some ⟨b, i.den.toNat * sz + 0, none⟩)) ?_ rfl (.mptr hb k3 rfl)
  simp [execOp, ho, e3, hy, hrun, add_lit]

theorem local_fieldAddr_mptr (hc : CxOk P cx) {t i fo ft m h j off : Nat} {x : Operand} (ho : o.op = .fieldAddr t x i) (hv : rd cx σ T x = some (.mptr h j off)) (hf : field? cx t i = some (fo, ft)) (hn : size? cx ft = some (m + 1)) :
    Local P cx.gl σ T o ⟨.mptr h j (off + fo), [], [], []⟩ := by
  intro B N E a w ff hf' hg st ag agh hT
  have hr := rd_sound hv hg st (ag_of ag (by simp [ho, Op.operands])) hT
  obtain ⟨b, sz, hb, hz, hx⟩ := hr.mptr_inv
  refine yields_value st (v := .pointer (some ⟨b, j * sz + (off + fo), none⟩)) ?_ rfl (.mptr hb hz rfl)
  simp [execOp, ho, hx, run_fieldAt hc hf hn, add_lit, Nat.add_assoc]

theorem local_load_mptr (hc : CxOk P cx) {t : Nat} {x : Operand} (ho : o.op = .load t x) {h j off n ty sz : Nat} {m : ST} {f : Nat → List SV} {s : SV} (hv : rd cx σ T x = some (.mptr h j off)) (hn : size? cx t = some n)
    (hh : nth σ.hp h = some (.row ty m sz f)) (hob : allT (condsOf σ.gm T) → (j : Int) < m.den) (hle : off + n ≤ (f j).length) (hp : pack (isAgg? cx t) (((f j).drop off).take n) = some s) : Local P cx.gl σ T o ⟨s, [], [h], []⟩ := by
  intro B N E a w ff hf hg st ag agh hT
  have hr := rd_sound hv hg st (ag_of ag (by simp [ho, Op.operands])) hT
  obtain ⟨b, sz', hb, hz, hx⟩ := hr.mptr_inv
  have hk' := st.heap h
  rw [row_same agh (List.mem_singleton.2 rfl) hh] at hk'
  obtain ⟨b', C, m', k1, k2, k3, k4, k5, k6, k7, k8, k9⟩ := hk'
  obtain rfl : b = b' := Option.some.inj (hb.symm.trans k1)
  obtain rfl : sz' = sz := Option.some.inj (hz.symm.trans k3)
  obtain ⟨ti, hti, hsz⟩ := size?_ti hn
  obtain ⟨r1, r2, r3, r4⟩ := k8
  have hj : j < m' := by have := hob hT; omega
  have hfl := r2 j hj
  have hbound : (j + 1) * sz' ≤ m' * sz' := Nat.mul_le_mul_right _ hj
  rw [Nat.add_mul] at hbound
  have hsub : RelL E w (((f j).drop off).take n) ((C.toList.drop (j * sz' + off)).take n) := by
    refine ⟨by simp; omega, fun i s v p q => ?_⟩
    rw [List.getElem?_take] at p q
    split at p
    · rename_i e
      rw [if_pos e] at q
      rw [List.getElem?_drop] at p q
      refine .ro (r3 j (off + i) s v hj p ?_)
      rw [← Nat.add_assoc]; simpa using q
    · cases p
  obtain ⟨p1, p2⟩ := pack_rel hp hsub
  have hlen : ((C.toList.drop (j * sz' + off)).take n).length = n := by simp; omega
  have hrun := run_loadAt (hc.ti hti) (w := w) (b := b) (off := j * sz' + off) (vs := (C.toList.drop (j * sz' + off)).take n) (fun q v hq => by
    rw [List.getElem?_take] at hq
    split at hq
    · rw [List.getElem?_drop] at hq
      rw [cell_of_row w b (j * sz' + off + q) C ty (0, 0) k5]
      simpa using hq
    · cases hq) (by rw [hlen, hsz]) (isAgg?_eq hti) p1
  exact yields_value st (by simp [execOp, ho, hx, hrun]) rfl p2

theorem local_store_mptr (hc : CxOk P cx) {t : Nat} {x y : Operand} (ho : o.op = .store t x y) {h j off n ty sz : Nat} {m : ST} {f f' : Nat → List SV} {s : SV} (hv : rd cx σ T x = some (.mptr h j off)) (hs : rdT cx σ T t y = some s) (hn : size? cx t = some n)
    (hh : nth σ.hp h = some (.row ty m sz f)) (hj : (j : Int) < m.den) (hl : s.cells.length = n) (hle : off + n ≤ (f j).length) (h1 : onesB s.cells = true) (hpl : plainV (.agg (loose.looseL (norm.normL dn s.cells))) = true)
    (hfj : f' j = putN (f j) off (loose.looseL (norm.normL dn s.cells))) (hfo : ∀ i, i ≠ j → f' i = f i) : Local P cx.gl σ T o ⟨.tup [], [.put h (.row ty m sz f')], [h], []⟩ := by
  intro B N E a w ff hf hg st ag agh hT K' Q hK
  have hr := rd_sound hv hg st (ag_of ag (by simp [ho, Op.operands])) hT
  have hr2 := rdT_sound hs hg st (ag_of ag (by simp [ho, Op.operands])) hT
  obtain ⟨b, sz', hb, hz, hx⟩ := hr.mptr_inv
  have hfh := row_same agh (List.mem_singleton.2 rfl) hh
  have hk' := st.heap h
  rw [hfh] at hk'
  obtain ⟨b', C, m', k1, k2, k3, k4, k5, k6, k7, k8, k9⟩ := hk'
  obtain rfl : b = b' := Option.some.inj (hb.symm.trans k1)
  obtain rfl : sz' = sz := Option.some.inj (hz.symm.trans k3)
  obtain ⟨ti, hti, hsz⟩ := size?_ti hn
  obtain ⟨r1, r2, r3, r4⟩ := k8
  have hjm : j < m' := by omega
  have hfl := r2 j hjm
  have hbound : (j + 1) * sz' ≤ m' * sz' := Nat.mul_le_mul_right _ hjm
  rw [Nat.add_mul] at hbound
  have hcs := cells_of h1 hr2
  have hone := ones_of h1 hcs
  have hul : (a.eval y).cells.toList.length = n := by rw [← hcs.1]; exact hl
  have hplain : RelL E w (loose.looseL (norm.normL dn s.cells)) (a.eval y).cells.toList := by
    rw [looseL_eq, normL_eq]
    exact (hcs.map _ fun s v _ h => h.norm).map _ fun s v _ h => h.loose
  have hpc : ∀ c ∈ loose.looseL (norm.normL dn s.cells), plainV c = true := by
    simp only [plainV] at hpl
    exact (plainL_iff _).1 hpl
  have hpl' : (loose.looseL (norm.normL dn s.cells)).length = n := by rw [hplain.1]; exact hul
  generalize hU : (a.eval y).cells.toList = us at *
  generalize hP : loose.looseL (norm.normL dn s.cells) = ps at *
  let C' : Array Value := (C.toList.take (j * sz' + off) ++ us ++ C.toList.drop (j * sz' + off + us.length)).toArray
  have hle' : j * sz' + off + us.length ≤ C.size := by rw [hul]; omega
  have hC's : C'.size = C.size := by simp [C']; omega
  have hCget : ∀ q : Nat, C'[q]? = if j * sz' + off ≤ q ∧ q < j * sz' + off + us.length then us[q - (j * sz' + off)]? else C[q]? := by
    intro q
    have : C'[q]? = (C.toList.take (j * sz' + off) ++ us ++ C.toList.drop (j * sz' + off + us.length))[q]? := by simp [C']
    rw [this]
    split
    · rename_i e
      rw [List.append_assoc, List.getElem?_append_right (by simp; omega), List.getElem?_append_left (by simp; omega)]
      congr 1; simp; omega
    · rename_i e
      by_cases hi : q < j * sz' + off
      · rw [List.append_assoc, List.getElem?_append_left (by simp; omega), List.getElem?_take, if_pos hi]; simp
      · rw [List.getElem?_append_right (by simp; omega), List.getElem?_drop, ← Array.getElem?_toList]
        congr 1; simp; omega
  have hrow : rowIs E w f' m' sz' C' := by
    refine ⟨by rw [hC's]; exact r1, fun i hi => ?_, fun i q s2 v hi hs2 hv2 => ?_, fun v hv => ?_⟩
    · by_cases e : i = j
      · subst e; rw [hfj, len_putN]; exact hfl
      · rw [hfo i e]; exact r2 i hi
    · rw [hCget] at hv2
      have hql : q < sz' := by
        have hlen : (f' i).length = sz' := by
          by_cases e : i = j
          · subst e; rw [hfj, len_putN]; exact hfl
          · rw [hfo i e]; exact r2 i hi
        rw [← hlen]; exact (List.getElem?_eq_some_iff.1 hs2).1
      by_cases e : i = j
      · subst e
        rw [hfj, get_putN _ _ _ _ (by rw [hpl']; exact hle)] at hs2
        by_cases hin : off ≤ q ∧ q < off + n
        · rw [if_pos (by rw [hpl']; exact hin)] at hs2
          rw [if_pos (by rw [hul]; omega)] at hv2
          have e2 : i * sz' + q - (i * sz' + off) = q - off := by omega
          rw [e2] at hv2
          exact (hplain.2 _ s2 v hs2 hv2).plainOne (hpc s2 (List.mem_of_getElem? hs2)) (hone v (List.mem_of_getElem? hv2))
        · rw [if_neg (by rw [hpl']; exact hin)] at hs2
          rw [if_neg (by rw [hul]; omega)] at hv2
          exact r3 i q s2 v hi hs2 hv2
      · rw [hfo i e] at hs2
        have hne : ¬ (j * sz' + off ≤ i * sz' + q ∧ i * sz' + q < j * sz' + off + us.length) := by
          rw [hul]
          rcases Nat.lt_or_ge i j with hlt | hge
          · have : (i + 1) * sz' ≤ j * sz' := Nat.mul_le_mul_right _ hlt
            rw [Nat.add_mul] at this
            omega
          · have : (j + 1) * sz' ≤ i * sz' := Nat.mul_le_mul_right _ (by omega)
            rw [Nat.add_mul] at this
            omega
        rw [if_neg hne] at hv2
        exact r3 i q s2 v hi hs2 hv2
    · obtain ⟨q, hq⟩ := Array.mem_iff_getElem?.1 hv
      rw [hCget] at hq
      split at hq
      · exact hone v (List.mem_of_getElem? hq)
      · exact r4 v (Array.mem_of_getElem? hq)
  obtain ⟨x1, x2, x3⟩ := set_row (h := h) st hfh hb k2 k5 hrow
  have hrun : (Instr.storeAt t (.pointer (some ⟨b, j * sz' + off, none⟩)) (a.eval y)).run P w = .ok () (w.setRow b C') := by
    have hS := (hc.ti hti).sizeOf w
    have hsc := run_storeCells_at P b (j * sz' + off) ty us 0 C w k5 (by simpa using hle') hone
    have hne : ((a.eval y).cells.size ≠ ti.size) = False := by
      have : (a.eval y).cells.size = ti.size := by rw [hsz]; rw [← hU] at hul; simpa using hul
      simp [this]
    simp only [Nat.add_zero] at hsc
    simp only [Instr.storeAt, Instr.sureAddr, storeVar, Sem.run_bind, Sem.run_pure, Result.andThen_ok, hS, hne, if_false, hU, hsc]
    rfl
  unfold Oper.wp
  have : (execOp a.eval o).run P w = .ok .skip (w.setRow b C') := by
    simp only [execOp, ho, hx, Sem.run_bind, hrun, Result.andThen_ok, Sem.run_pure]
  rw [this]
  exact hK undef _ E x1 x2 x3 (.tup rfl (by simp))

end
end Go.Sx
/- Copies into rows; parts of slices and strings. -/
namespace Go.Sx
open Go

section
variable {P : Program} {cx : Cx} {σ : Sy} {T : List Nat} {o : Oper} {K : Out → Prop}

theorem local_copy (hc : CxOk P cx) {c : Call} (ho : o.op = .call c) (hcal : c.callee = .builtin .copy) {x y : Operand} {t t' : Nat} {ti : TI} (hx : c.args.toList = [x, y]) (ht : c.argTypes.toList = [t, t']) (hl : look t cx.tt = some ti) {e : TypeId} (hk : ti.k = .slice e)
    {h ty sz : Nat} {n m : ST} {f f' g : Nat → List SV} {s : SV} (hv : rd cx σ T x = some (.mrow h)) (hs : rd cx σ T y = some s) (hh : nth σ.hp h = some (.row ty n sz f)) (hsz : size? cx e = some sz) (hrow : rowOf sz s = some (m, g))
    (h1 : ∀ i : Nat, (i : Int) < min m.den n.den → f' i = g i) (h2 : ∀ i : Nat, min m.den n.den ≤ (i : Int) → (i : Int) < n.den → f' i = f i) :
    Local P cx.gl σ T o ⟨.int .i64 (.a (min m.den n.den)), [.put h (.row ty n sz f')], [h], []⟩ := by
  intro B N E a w ff hf hg st ag agh hT K' Q hK
  have hmem : x ∈ o.op.operands.toList ∧ y ∈ o.op.operands.toList := by constructor <;> simp [ho, Op.operands, Call.operands, hcal, hx]
  obtain ⟨b, md, hb, hm, e3⟩ := (rd_sound hv hg st (ag_of ag hmem.1) hT).mrow_inv
  have hrs := rd_sound hs hg st (ag_of ag hmem.2) hT
  have e1 : c.args = #[x, y] := Array.ext' (by simpa using hx)
  have e2 : c.argTypes = #[t, t'] := Array.ext' (by simpa using ht)
  have hfh := row_same agh (List.mem_singleton.2 rfl) hh
  have hk' := st.heap h
  rw [hfh] at hk'
  obtain ⟨b', C, m', k1, k2, k3, k4, k5, k6, k7, k8, k9⟩ := hk'
  obtain rfl : b = b' := Option.some.inj (hb.symm.trans k1)
  obtain rfl : md = m' := Option.some.inj (hm.symm.trans k2)
  obtain ⟨te, hte, hszt⟩ := size?_ti hsz
  obtain ⟨k, news, n1, n2, ⟨n3, n4, n5⟩, n6, n7⟩ := rowOf_src hrow hrs
  obtain ⟨r1, r2, r3, r4⟩ := k8
  have hrmin : min m.den n.den = ((min k md : Nat) : Int) := by rw [n1, k6]; omega
  have hlens : ∀ i, i < k → ∀ j, j < sz → i * sz + j < news.length := by
    intro i hi j hj
    have : (i + 1) * sz ≤ k * sz := Nat.mul_le_mul_right _ hi
    rw [Nat.add_mul] at this
    omega
  let r := min k md
  have hrk : r ≤ k := Nat.min_le_left _ _
  have hrm : r ≤ md := Nat.min_le_right _ _
  have hrks : r * sz ≤ k * sz := Nat.mul_le_mul_right _ hrk
  have hrms : r * sz ≤ md * sz := Nat.mul_le_mul_right _ hrm
  let us := news.take (r * sz)
  have husl : us.length = r * sz := by simp [us]; omega
  let C' : Array Value := (C.toList.take 0 ++ us ++ C.toList.drop (0 + us.length)).toArray
  have hC's : C'.size = C.size := by simp [C', us]; omega
  have hCget : ∀ q : Nat, C'[q]? = if q < r * sz then news[q]? else C[q]? := by
    intro q
    have : C'[q]? = (us ++ C.toList.drop us.length)[q]? := by simp [C']
    rw [this]
    split
    · rename_i e
      rw [List.getElem?_append_left (by omega)]
      simp only [us]
      rw [List.getElem?_take, if_pos e]
    · rename_i e
      rw [List.getElem?_append_right (by omega), List.getElem?_drop, ← Array.getElem?_toList]
      congr 1; omega
  have hone : ∀ v ∈ us, v.oneCell' = true := fun v hv => n4 v (List.mem_of_mem_take hv)
  have hrow' : rowIs E w f' md sz C' := by
    have hfi : ∀ i, i < md → (i < r → f' i = g i) ∧ (r ≤ i → f' i = f i) := by
      intro i hi
      refine ⟨fun hlt => h1 i (by rw [hrmin]; omega), fun hge => h2 i (by rw [hrmin]; omega) (by omega)⟩
    have hlen : ∀ i, i < md → (f' i).length = sz := by
      intro i hi
      by_cases e : i < r
      · rw [(hfi i hi).1 e]; exact n6 i (by omega)
      · rw [(hfi i hi).2 (by omega)]; exact r2 i hi
    refine ⟨by rw [hC's]; exact r1, hlen, fun i q s2 v hi hs2 hv2 => ?_, fun v hv => ?_⟩
    · have hql : q < sz := by rw [← hlen i hi]; exact (List.getElem?_eq_some_iff.1 hs2).1
      rw [hCget] at hv2
      by_cases e : i < r
      · have : (i + 1) * sz ≤ r * sz := Nat.mul_le_mul_right _ e
        rw [Nat.add_mul] at this
        rw [if_pos (by omega)] at hv2
        rw [(hfi i hi).1 e] at hs2
        exact n7 i q s2 v (by omega) hs2 hv2
      · have : r * sz ≤ i * sz := Nat.mul_le_mul_right _ (by omega)
        rw [if_neg (by omega)] at hv2
        rw [(hfi i hi).2 (by omega)] at hs2
        exact r3 i q s2 v hi hs2 hv2
    · obtain ⟨q, hq⟩ := Array.mem_iff_getElem?.1 hv
      rw [hCget] at hq
      split at hq
      · exact n4 v (List.mem_of_getElem? hq)
      · exact r4 v (Array.mem_of_getElem? hq)
  obtain ⟨x1, x2, x3⟩ := set_row (h := h) st hfh hb k2 k5 hrow'
  have hu := (hc.ti hl).slice hk
  have hS := (hc.ti hte).sizeOf w
  have hlen : (Builtin.lenOf (a.eval y)).run P w = .ok k w := by
    rcases n5 with ⟨e0, rfl⟩ | ⟨ad, c0, e0, _⟩ <;> rw [e0] <;> rfl
  have hcells : (Builtin.firstCells te.size (Nat.min k md) (a.eval y)).run P w = .ok us.toArray w := by
    rcases n5 with ⟨e0, e00⟩ | ⟨ad, c0, e0, hnews⟩
    · subst e00
      have : us = [] := by simp [us, r]
      rw [e0, this]; rfl
    · rw [e0]
      refine run_firstCells_some w te.size (Nat.min k md) ad k c0 us (by rw [husl, hszt]) (fun j v hj => ?_)
      simp only [us] at hj
      rw [List.getElem?_take] at hj
      split at hj
      · exact hnews j v hj
      · cases hj
  have hsc := run_storeCells_at P b 0 ty us 0 C w k5 (by rw [husl]; omega) hone
  simp only [Nat.add_zero] at hsc
  unfold Oper.wp
  have : (execOp a.eval o).run P w = .ok (.value (.int .i64 ((min k md : Nat) : Int))) (w.setRow b C') := by
    have hbi : (Builtin.copy_ #[t, t'] o.type #[.slice (some ⟨b, 0, none⟩) md md, a.eval y]).run P w = .ok (.int .i64 ((min k md : Nat) : Int)) (w.setRow b C') := by
      simp only [Builtin.copy_, Sem.run_bind, run_underlying hu, Result.andThen_ok, hlen, hS, hcells]
      simp [Sem.run_bind, run_underlying hu, hlen, hS, hcells, hsc, goInt, C']
    simp only [execOp, ho, resolve, hcal, e1, e2]
    simp [invoke, builtin, e3, hbi]
  rw [this]
  refine hK _ _ E x1 x2 x3 (.int ?_)
  simp only [ST.den]
  exact hrmin

end
end Go.Sx
/- Parts of slices and strings; bytes of strings. -/
namespace Go.Sx
open Go

section
variable {P : Program} {cx : Cx} {σ : Sy} {T : List Nat} {o : Oper} {K : Out → Prop}

theorem optRd_sound {B : Bs} {N : Nat} {E : Env} {a : Act} {w : World} {ff : Nat → SG} {hf : Nat → Hl} (hg : glOk B cx.gl) (st : St B N E a w ff hf) (hT : allT (condsOf σ.gm T)) {x : Option Operand} {s : Option SV} (h : optRd cx σ T x = some s)
    (hag : ∀ y, x = some y → ∀ q ∈ opSlots y, ff q = ffOf σ q) {d t : ST} (hb : boundOr d s = some t) : (x = none ∧ t = d) ∨ ∃ y k, x = some y ∧ a.eval y = .int k t.den := by
  unfold optRd at h
  split at h
  · cases h; left; exact ⟨rfl, (Option.some.inj hb).symm⟩
  · rename_i y
    split at h
    · rename_i v hv
      cases h
      right
      have hr := rd_sound hv hg st (hag y rfl) hT
      unfold boundOr at hb
      split at hb
      · rename_i e; cases e
      · rename_i k u e
        cases e
        cases hb
        exact ⟨y, _, rfl, hr.int_inv⟩
      · cases hb
    · cases h

theorem run_bound {k : IntKind} {i : Int} {n : Nat} {code : BoundsCode} {w : World} (h0 : 0 ≤ i) (h1 : i ≤ (n : Int)) : (Instr.sliceBound (.int k i) n code).run P w = .ok i.toNat w := by
  simp [Instr.sliceBound, asIntOf, h0, h1]

theorem run_bounds {sl : Bool} {len cap : Nat} {lo hi : Option Value} {l h : Int} {w : World} (hlo : (lo = none ∧ l = 0) ∨ ∃ k, lo = some (.int k l)) (hhi : (hi = none ∧ h = (len : Int)) ∨ ∃ k, hi = some (.int k h)) (h0 : 0 ≤ l) (h1 : l ≤ h) (h2 : h ≤ (len : Int)) (h3 : len ≤ cap) :
    (Instr.sliceBounds sl len cap lo hi none).run P w = .ok (l.toNat, h.toNat, cap) w := by
  have hh : ((h.toNat : Nat) : Int) = h := by omega
  rcases hlo with ⟨rfl, rfl⟩ | ⟨k, rfl⟩ <;> rcases hhi with ⟨rfl, rfl⟩ | ⟨k', rfl⟩ <;> simp [Instr.sliceBounds]
  · have := run_bound (P := P) (k := k') (i := h) (n := cap) (code := if sl = true then BoundsCode.sliceAcap else BoundsCode.sliceAlen) (w := w) (by omega) (by omega)
    simp [this]
  · have := run_bound (P := P) (k := k) (i := l) (n := len) (code := BoundsCode.sliceB) (w := w) (by omega) (by omega)
    simp [this]
  · have e1 := run_bound (P := P) (k := k') (i := h) (n := cap) (code := if sl = true then BoundsCode.sliceAcap else BoundsCode.sliceAlen) (w := w) (by omega) (by omega)
    have e2 := run_bound (P := P) (k := k) (i := l) (n := h.toNat) (code := BoundsCode.sliceB) (w := w) (by omega) (by omega)
    simp [e1, e2]

theorem local_slice_row (hc : CxOk P cx) {t e sz : Nat} {ti : TI} (hl : look t cx.tt = some ti) (hk : ti.k = .slice e) (hn : size? cx e = some sz) {x : Operand} {lo hi : Option Operand} (ho : o.op = .slice t x lo hi none) {nl : BT} {n : ST} {f f' : Nat → List SV}
    (hv : rd cx σ T x = some (.sl nl n sz f) ∨ ∃ h, rd cx σ T x = some (.gsl nl n sz f h)) {sa sb : Option SV} (hlo : optRd cx σ T lo = some sa) (hhi : optRd cx σ T hi = some sb) {p q : ST} (hp : boundOr (.l 0) sa = some p) (hq : boundOr n sb = some q)
    (hob : allT (condsOf σ.gm T) → 0 ≤ p.den ∧ p.den ≤ q.den ∧ q.den ≤ n.den) (hf : ∀ i j : Nat, (j : Int) = i + p.den → f' i = f j) : Local P cx.gl σ T o ⟨.sl nl (.a (q.den - p.den)) sz f', [], [], []⟩ := by
  intro B N E a w ff hf' hg st ag agh hT
  have hx' : RO E.I w (.sl nl n sz f) (a.eval x) := by
    rcases hv with hv | ⟨h, hv⟩
    · exact (rd_sound hv hg st (ag_of ag (by simp [ho, Op.operands])) hT).sl_inv
    · exact (rd_sound hv hg st (ag_of ag (by simp [ho, Op.operands])) hT).gsl_inv.1
  have h1 := optRd_sound hg st hT hlo (fun y hy => ag_of ag (by subst hy; simp [ho, Op.operands])) hp
  have h2 := optRd_sound hg st hT hhi (fun y hy => ag_of ag (by subst hy; simp [ho, Op.operands])) hq
  obtain ⟨o1, o2, o3⟩ := hob hT
  have hu := (hc.ti hl).slice hk
  obtain ⟨te, hte, hszt⟩ := size?_ti hn
  have hS := (hc.ti hte).sizeOf w
  have hlo' : (lo.map a.eval = none ∧ p.den = 0) ∨ ∃ k, lo.map a.eval = some (.int k p.den) := by
    rcases h1 with ⟨rfl, rfl⟩ | ⟨y, k, rfl, e⟩
    · exact .inl ⟨rfl, rfl⟩
    · exact .inr ⟨k, by simp [e]⟩
  have hhi' : ∀ m : Nat, n.den = (m : Int) → (hi.map a.eval = none ∧ q.den = (m : Int)) ∨ ∃ k, hi.map a.eval = some (.int k q.den) := by
    intro m hm
    rcases h2 with ⟨rfl, rfl⟩ | ⟨y, k, rfl, e⟩
    · exact .inl ⟨rfl, hm⟩
    · exact .inr ⟨k, by simp [e]⟩
  rcases hx'.sl_inv with ⟨e0, e1, e2⟩ | ⟨ad, m, cap, g, e0, e1, e2, e3, e3', e4, e5, e5', e6, e7⟩
  · have hp0 : p.den = 0 := by omega
    have hq0 : q.den = 0 := by omega
    have hb := run_bounds (P := P) (sl := true) (len := 0) (cap := 0) (lo := lo.map a.eval) (hi := hi.map a.eval) (l := p.den) (h := q.den) (w := w) hlo' (hhi' 0 (by simpa using e1)) o1 o2 (by omega) (Nat.le_refl _)
    refine yields_value st (v := .slice none 0 0) ?_ rfl (.ro (.slnil e2 (by simp only [ST.den]; omega)))
    simp [execOp, ho, e0, Instr.sliceAt, Instr.slice, run_underlying hu, hb, hS, hp0, hq0]
  · have hb := run_bounds (P := P) (sl := true) (len := m) (cap := cap) (lo := lo.map a.eval) (hi := hi.map a.eval) (l := p.den) (h := q.den) (w := w) hlo' (hhi' m e2) o1 o2 (by omega) e3
    let ad' := if cap = p.den.toNat then ad else ad.add (p.den.toNat * te.size)
    refine yields_value st (v := .slice (some ad') (q.den.toNat - p.den.toNat) (cap - p.den.toNat)) ?_ rfl (.ro ?_)
    · by_cases hcap : cap = p.den.toNat
      · subst hcap
        simp [execOp, ho, e0, Instr.sliceAt, Instr.slice, run_underlying hu, hb, hS, ad']
      · simp [execOp, ho, e0, Instr.sliceAt, Instr.slice, run_underlying hu, hb, hS, ad', hcap]
    · have hne : ∀ i, i < q.den.toNat - p.den.toNat → ad' = ad.add (p.den.toNat * sz) := by
        intro i hi'
        simp only [ad', hszt]
        rw [if_neg (by omega)]
      have hff : ∀ i, f' i = f (i + p.den.toNat) := fun i => hf i _ (by omega)
      refine .sl (fun i j => g (i + p.den.toNat) j) e1 (by simp only [ST.den]; omega) (by omega) (by omega) (fun hpos => ?_) (fun i hi' => ?_) (fun i j hi' hj => e5' _ _ (by omega) hj) (fun i j hi' hj => ?_) (fun i j s hi' hs => ?_)
      · rw [hne 0 hpos]; exact add_spot _ _ (e4 (by omega))
      · rw [hff]; exact e5 _ (by omega)
      · rw [hne i hi', add_block, add_off]
        have := e6 (i + p.den.toNat) j (by omega) hj
        rw [Nat.add_mul] at this
        rw [show ad.off + p.den.toNat * sz + (i * sz + j) = ad.off + (i * sz + p.den.toNat * sz + j) by omega]
        exact this
      · rw [hff] at hs; exact e7 _ j s (by omega) hs

theorem extract_bytes (s : List UInt8) (l h : Nat) : (bytes s).extract l h = bytes ((s.drop l).take (h - l)) := by
  apply ByteArray.ext
  simp only [ByteArray.data_extract, bytes]
  apply Array.ext'
  simp [List.extract_eq_take_drop]

theorem local_slice_str (hc : CxOk P cx) {t : Nat} {ti : TI} (hl : look t cx.tt = some ti) (hk : ti.k = .string) {x : Operand} {lo hi : Option Operand} (ho : o.op = .slice t x lo hi none) {s : List UInt8}
    (hv : rd cx σ T x = some (.str s)) {sa sb : Option SV} (hlo : optRd cx σ T lo = some sa) (hhi : optRd cx σ T hi = some sb) {p q : ST} (hp : boundOr (.l 0) sa = some p) (hq : boundOr (.len s) sb = some q)
    (hob : allT (condsOf σ.gm T) → 0 ≤ p.den ∧ p.den ≤ q.den ∧ q.den ≤ s.length) : Local P cx.gl σ T o ⟨.str ((s.drop p.den.toNat).take (q.den.toNat - p.den.toNat)), [], [], []⟩ := by
  intro B N E a w ff hf' hg st ag agh hT
  have hx' := (rd_sound hv hg st (ag_of ag (by simp [ho, Op.operands])) hT).str_inv
  have h1 := optRd_sound hg st hT hlo (fun y hy => ag_of ag (by subst hy; simp [ho, Op.operands])) hp
  have h2 := optRd_sound hg st hT hhi (fun y hy => ag_of ag (by subst hy; simp [ho, Op.operands])) hq
  obtain ⟨o1, o2, o3⟩ := hob hT
  have hu := (hc.ti hl).string hk
  have hlo' : (lo.map a.eval = none ∧ p.den = 0) ∨ ∃ k, lo.map a.eval = some (.int k p.den) := by
    rcases h1 with ⟨rfl, rfl⟩ | ⟨y, k, rfl, e⟩
    · exact .inl ⟨rfl, rfl⟩
    · exact .inr ⟨k, by simp [e]⟩
  have hhi' : (hi.map a.eval = none ∧ q.den = ((s.length : Nat) : Int)) ∨ ∃ k, hi.map a.eval = some (.int k q.den) := by
    rcases h2 with ⟨rfl, rfl⟩ | ⟨y, k, rfl, e⟩
    · exact .inl ⟨rfl, rfl⟩
    · exact .inr ⟨k, by simp [e]⟩
  have hb := run_bounds (P := P) (sl := false) (len := s.length) (cap := s.length) (lo := lo.map a.eval) (hi := hi.map a.eval) (l := p.den) (h := q.den) (w := w) hlo' hhi' o1 o2 o3 (Nat.le_refl _)
  have hs : (bytes s).size = s.length := rfl
  refine yields_value st (v := .string (bytes ((s.drop p.den.toNat).take (q.den.toNat - p.den.toNat)))) ?_ rfl (.ro (.str rfl))
  simp [execOp, ho, hx', Instr.sliceAt, Instr.slice, run_underlying hu, hs, hb, extract_bytes]

theorem local_index_str (hc : CxOk P cx) {t : Nat} {ti : TI} (hl : look t cx.tt = some ti) (hk : ti.k = .string) {x y : Operand} (ho : o.op = .index t x y) {s : List UInt8} {k : IntKind} {i : ST}
    (hv : rd cx σ T x = some (.str s)) (hi : rd cx σ T y = some (.int k i)) (hob : allT (condsOf σ.gm T) → 0 ≤ i.den ∧ i.den < s.length) : Local P cx.gl σ T o ⟨.int .u8 (.a ((s.getD i.den.toNat 0).toNat : Int)), [], [], []⟩ := by
  intro B N E a w ff hf' hg st ag agh hT
  have hx' := (rd_sound hv hg st (ag_of ag (by simp [ho, Op.operands])) hT).str_inv
  have hy := (rd_sound hi hg st (ag_of ag (by simp [ho, Op.operands])) hT).int_inv
  obtain ⟨o1, o2⟩ := hob hT
  have hu := (hc.ti hl).string hk
  have hlt : i.den.toNat < s.length := by omega
  have hget : (bytes s)[i.den.toNat]? = some (s.getD i.den.toNat 0) := by
    have : i.den.toNat < (bytes s).size := hlt
    rw [getElem?_pos (bytes s) i.den.toNat this, List.getD_eq_getElem?_getD, List.getElem?_eq_getElem hlt]
    rfl
  refine yields_value st (v := .int .u8 ((s.getD i.den.toNat 0).toNat : Int)) ?_ rfl (.int rfl)
  simp [execOp, ho, hx', hy, Instr.index, asIntOf, run_underlying hu, o1, hget]

end
end Go.Sx
/- Owned rows: grown, read, written. -/
namespace Go.Sx
open Go

theorem run_storeCells_fr {P : Program} (g o : Nat) (t : TypeId) (fr : Nat × Nat) : ∀ (vs : List Value) (i : Nat) (cur : Array Value) (w : World), w.heap[g]? = some (.cells cur t fr) → (fr = (0, 0) ∨ cur.size ≤ fr.1) → o + i + vs.length ≤ cur.size → (∀ v ∈ vs, v.oneCell' = true) →
    (storeCells ⟨g, o, none⟩ vs i).run P w = .ok () (w.setRow g (cur.toList.take (o + i) ++ vs ++ cur.toList.drop (o + i + vs.length)).toArray)
  | [], i, cur, w, hg, _, _, _ => by
    simp only [storeCells, List.append_nil, List.length_nil, Nat.add_zero, List.take_append_drop, Array.toArray_toList]
    rw [setRow_self w g cur t fr hg]
    rfl
  | v :: rest, i, cur, w, hg, hfr, hl, h1 => by
    have hi : o + i < cur.size := by simp at hl; omega
    have hadd : (⟨g, o, none⟩ : Addr).add i = ⟨g, o + i, none⟩ := by unfold Addr.add; split <;> simp_all
    have hcell : w.cell? ⟨g, o + i, none⟩ = some cur[o + i] := by simp [World.cell?, hg, hi]
    have hfro : w.frozen? ⟨g, o + i, none⟩ = false := by
      simp only [World.frozen?, hg]
      rcases hfr with rfl | hfr
      · simp
      · simp; omega
    have hst : (store ((⟨g, o, none⟩ : Addr).add i) v).run P w = .ok () (w.setRow g (cur.setIfInBounds (o + i) v)) := by
      rw [hadd, run_store P w _ v _ (h1 v (by simp)), hcell]
      simp [hfro, setCell_eq_setRow w g (o + i) cur t fr v hg]
    have ih := run_storeCells_fr (P := P) g o t fr rest (i + 1) (cur.setIfInBounds (o + i) v) (w.setRow g (cur.setIfInBounds (o + i) v)) (setRow_heap w g cur _ t _ hg) (by simpa using hfr) (by simp at hl ⊢; omega) (fun x hx => h1 x (by simp [hx]))
    simp only [storeCells, Sem.run_bind, hst, Result.andThen_ok, ih, setRow_setRow]
    congr 3
    have e := list_seg_step cur.toList (o + i) v rest (by simp at hl ⊢; omega)
    simpa [Array.toList_setIfInBounds, Nat.add_assoc] using e

theorem ownsW.lt {w : World} {gr : Bool} {e : TypeId} {sz m : Nat} {v : Value} {xs : List Value} (h : ownsW w gr e sz v m xs) : ∀ b, v.ownBlock = some b → b < w.heap.size := by
  intro b hb
  rcases h.2 with ⟨rfl, _⟩ | ⟨g, cap, cur, fr, rfl, hg, _⟩
  · simp [Value.ownBlock] at hb
  · simp [Value.ownBlock] at hb; subst hb
    exact (Array.getElem?_eq_some_iff.1 hg).1

/-- The state behind an owned row that has come, has grown, or has been written. -/
theorem put_own {B : Bs} {N : Nat} {E : Env} {a : Act} {w : World} {ff : Nat → SG} {hf : Nat → Hl} (st : St B N E a w ff hf) {h : Nat} {e : TypeId} {sz : Nat} {gr : Bool} {v v' : Value} {n m : Nat} {ys : List Value} {w' : World}
    (hold : (hf h = .fresh ∧ v = .slice none 0 0) ∨ ((∃ nt f gr0, hf h = .own e nt sz gr0 f) ∧ E.τ h = some v ∧ E.ζ h = some sz ∧ ∀ b, v.ownBlock = some b → E.O b = some h ∧ ∀ o, ¬ E.I b o))
    (hsh : ∃ a c, v = .slice a n c) (hown' : ownsW w' gr e sz v' (n + m) ys) (h1 : ∀ u ∈ ys, u.oneCell' = true)
    (hblk : (v'.ownBlock = v.ownBlock ∧ w.grownBy w' v.ownBlock) ∨ (v'.ownBlock = some w.heap.size ∧ w.grownBy w' none)) (hkeep : hf h ≠ .fresh → m = 0 → v' = v) {nt' : ST} (hnt : nt'.den = ((n + m : Nat) : Int))
    {f' : Nat → List SV} (hrow : rowIn E w f' (n + m) sz ys) :
    ∃ E', Ext E w E' w' ∧ Base B E' w' ∧ (∀ k, HOk E' w' k (upd hf h (.own e nt' sz gr f') k)) ∧ E'.τ h = some v' ∧ E'.ζ h = some sz := by
  have hb := st.base
  have hbold : ∀ b, v.ownBlock = some b → E.O b = some h ∧ (∀ o, ¬ E.I b o) ∧ b < w.heap.size := by
    intro b hbb
    rcases hold with ⟨_, rfl⟩ | ⟨_, _, _, h3⟩
    · simp [Value.ownBlock] at hbb
    · exact ⟨(h3 b hbb).1, (h3 b hbb).2, owned_lt hb (h3 b hbb).1⟩
  let E' : Env := ⟨E.β, upd E.τ h (some v'), fun b => if v'.ownBlock = some b then some h else E.O b, E.κ, upd E.ζ h (some sz), E.I⟩
  have hgos : w'.os = w.os ∧ w'.tape = w.tape ∧ w'.output = w.output ∧ w.heap.size ≤ w'.heap.size := by
    rcases hblk with ⟨_, hg⟩ | ⟨_, hg⟩ <;> exact ⟨hg.os, hg.tape, hg.output, hg.size⟩
  have hother : ∀ b, b < w.heap.size → v.ownBlock ≠ some b → w'.heap[b]? = w.heap[b]? := by
    intro b hlt hne
    rcases hblk with ⟨_, hg⟩ | ⟨_, hg⟩
    · exact hg.block b hlt (fun e => hne e.symm)
    · exact hg.block b hlt (by simp)
  have hI : ∀ b o, E.I b o → w'.cell? ⟨b, o, none⟩ = w.cell? ⟨b, o, none⟩ := by
    intro b o hi
    have hlt := hb.Ibd b o hi
    have hne : v.ownBlock ≠ some b := fun hbv => (hbold b hbv).2.1 o hi
    simp only [World.cell?]
    rw [hother b hlt hne]
  have hfr : hf h = .fresh → E.τ h = none ∧ E.ζ h = none := by
    intro hfr
    have := st.heap h
    rw [hfr] at this
    exact ⟨this.2.1, this.2.2.2⟩
  have hx : Ext E w E' w' := by
    refine ⟨fun _ _ h => h, fun k u hk => ?_, fun _ _ h => h, fun k z hk => ?_, fun b o h => h, hI⟩
    · show upd E.τ h (some v') k = some u ∨ ∃ a m' c a' m'' c', u = .slice a m' c ∧ upd E.τ h (some v') k = some (.slice a' m'' c') ∧ m' < m''
      unfold upd
      by_cases e : k = h
      · subst e
        rw [if_pos rfl]
        rcases hold with ⟨hf0, _⟩ | ⟨⟨nt, f, gr0, hne⟩, h2, _⟩
        · rw [(hfr hf0).1] at hk; cases hk
        · rw [h2] at hk
          cases hk
          by_cases hm : m = 0
          · left; rw [hkeep (by rw [hne]; simp) hm]
          · right
            obtain ⟨a', c', rfl⟩ := hown'.shape
            obtain ⟨a, c, rfl⟩ := hsh
            exact ⟨a, n, c, a', n + m, c', rfl, rfl, by omega⟩
      · rw [if_neg e]; exact .inl hk
    · show upd E.ζ h (some sz) k = some z
      unfold upd
      by_cases e : k = h
      · subst e
        rw [if_pos rfl]
        rcases hold with ⟨hf0, _⟩ | ⟨_, _, h2, _⟩
        · rw [(hfr hf0).2] at hk; cases hk
        · rw [h2] at hk; exact hk
      · rw [if_neg e]; exact hk
  have hownlt : ∀ b, v'.ownBlock = some b → b < w'.heap.size := hown'.lt
  have hnew : ∀ b, v'.ownBlock = some b → B.w0.heap.size ≤ b ∨ B.X b := by
    intro b hbb
    rcases hblk with ⟨hs, _⟩ | ⟨hs, _⟩
    · exact (hb.Obd b h (hbold b (by rw [← hs]; exact hbb)).1).2
    · rw [hs] at hbb; cases hbb; exact .inl hb.size
  refine ⟨E', hx, ⟨hgos.1.trans hb.os, hgos.2.1.trans hb.tape, hgos.2.2.1.trans hb.output, Nat.le_trans hb.size hgos.2.2.2, fun b hlt hX => ?_, fun b o hi => ?_, fun b o hi => ?_, hb.Inew, fun b k hO => ?_, hb.β0.ext hx⟩, fun k => ?_, by simp [E', upd], by simp [E', upd]⟩
  · have hsz := hb.size
    rw [hother b (by omega) ?_]
    · exact hb.old b hlt hX
    · intro hbv
      rcases (hb.Obd b h (hbold b hbv).1).2 with h | h
      · omega
      · exact hX h
  · obtain ⟨i1, i2⟩ := hb.I0 b o hi
    exact ⟨i1, by rw [hI b o i1]; exact i2⟩
  · exact Nat.lt_of_lt_of_le (hb.Ibd b o hi) hgos.2.2.2
  · have hO : (if v'.ownBlock = some b then some h else E.O b) = some k := hO
    split at hO
    · rename_i hbb
      exact ⟨hownlt b hbb, hnew b hbb⟩
    · obtain ⟨o1, o2⟩ := hb.Obd b k hO
      exact ⟨Nat.lt_of_lt_of_le o1 hgos.2.2.2, o2⟩
  · by_cases e : k = h
    · subst e
      simp only [upd, if_pos]
      refine ⟨v', n + m, ys, by simp [E', upd], by simp [E', upd], hown', hnt, h1, ⟨hrow.1, fun i j s u a b c => (hrow.2 i j s u a b c).mono hx.I hx.cell⟩, fun b hbb => ⟨by show (if v'.ownBlock = some b then some k else E.O b) = some k; rw [if_pos hbb], fun o hi => ?_⟩⟩
      rcases hblk with ⟨hs, _⟩ | ⟨hs, _⟩
      · exact (hbold b (by rw [← hs]; exact hbb)).2.1 o hi
      · rw [hs] at hbb; cases hbb
        have := hb.Ibd _ _ hi
        omega
    · simp only [upd, if_neg e]
      refine HOk.keep hx (st.heap k) rfl (by simp [E', upd, e]) rfl (by simp [E', upd, e]) fun b hO => ?_
      have hlt := owned_lt hb hO
      have hne : v'.ownBlock ≠ some b := by
        intro hbb
        rcases hblk with ⟨hs, _⟩ | ⟨hs, _⟩
        · have := (hbold b (by rw [← hs]; exact hbb)).1
          rw [hO] at this
          exact e (Option.some.inj this)
        · rw [hs] at hbb; cases hbb; omega
      have hnv : v.ownBlock ≠ some b := by
        intro hbb
        have := (hbold b hbb).1
        rw [hO] at this
        exact e (Option.some.inj this)
      exact ⟨by show (if v'.ownBlock = some b then some h else E.O b) = some k; rw [if_neg hne]; exact hO, hother b hlt hnv, fun o hi => hi⟩

section
variable {P : Program} {cx : Cx} {σ : Sy} {T : List Nat} {o : Oper} {K : Out → Prop}

/-- A value that is as long as its row is its row's. -/
theorem osl_val {E : Env} {w : World} {h : Nat} {n n0 : ST} {nl : BT} {u v : Value} {gr : Bool} {e : TypeId} {sz m : Nat} {xs : List Value} (hr : Rel E w (.osl nl n h) u) (hτ : E.τ h = some v) (hown : ownsW w gr e sz v m xs) (hn0 : n0.den = (m : Int)) (he : n.den = n0.den) :
    u = v ∧ (nl.den = true ↔ v = .slice none 0 0) := by
  obtain ⟨⟨a, k, c, e1, e2, e3⟩, a0, m0, c0, t1, t2, t3⟩ := hr.osl_inv
  rw [hτ] at t1
  cases t1
  obtain ⟨a1, c1, e4⟩ := hown.shape
  cases e4
  have : u = .slice a0 _ c0 := t3 (by rw [he, hn0])
  refine ⟨this, ?_⟩
  rw [this] at e1
  simp only [Value.slice.injEq] at e1
  obtain ⟨rfl, _, _⟩ := e1
  rw [e3]
  constructor
  · rintro rfl
    rcases hown.2 with ⟨h1, _⟩ | ⟨g, cap, cur, fr, h1, _⟩
    · exact h1
    · simp at h1
  · intro h1
    simp only [Value.slice.injEq] at h1
    exact h1.1

theorem own_same {E : Env} {w : World} {hf' : Nat → Hl} {h : Nat} {hl : Hl} (hk : HOk E w h (hf' h)) (e : hf' h = hl) : HOk E w h hl := by rw [← e]; exact hk

theorem local_append_own (hc : CxOk P cx) {c : Call} (ho : o.op = .call c) (hcal : c.callee = .builtin .append) {x y : Operand} {t e sz : Nat} {te ti : TI} (hx : c.args.toList = [x, y]) (ht : c.argTypes.toList = [t, t]) (hlt : look t cx.tt = some ti) (hk : ti.k = .slice e) (hle : look e cx.tt = some te) (hsz : te.size = sz) (hz : 0 < sz)
    {nl : BT} {n n0 : ST} {f : Nat → List SV} {h : Nat} (hvx : rd cx σ T x = some (.osl nl n h)) (hh : nth σ.hp h = some (.own e n0 sz true f)) {s : SV} (hvy : rd cx σ T y = some s) {m : ST} {g : Nat → List SV} (hrow : rowOf sz s = some (m, g))
    (hb : n.den = n0.den ∧ (n.den + m.den) * te.bytes ≤ 140737488355328 ∧ n.den + m.den ≤ 9223372036854775807)
    {f' : Nat → List SV} {n' : Int} (hn' : n' = n.den + m.den) (hf1 : ∀ i : Nat, (i : Int) < n.den → f' i = f i) (hf' : ∀ i j : Nat, (i : Int) = n.den + j → (j : Int) < m.den → f' i = g j) :
    Local P cx.gl σ T o ⟨.osl (andT nl (cmpT .eql m (.l 0))) (.a n') h, [.put h (.own e (.a n') sz true f')], [h], []⟩ := by
  intro B N E a w ff hf hg st ag agh hT K' Q hK
  have mx : x ∈ o.op.operands.toList := by simp [ho, Op.operands, Call.operands, hcal, hx]
  have my : y ∈ o.op.operands.toList := by simp [ho, Op.operands, Call.operands, hcal, hx]
  have hrx := rd_sound hvx hg st (ag_of ag mx) hT
  have hry := rd_sound hvy hg st (ag_of ag my) hT
  obtain ⟨k, news, r1, r2, r3, r4, r5⟩ := rowOf_src hrow hry
  have hkk := st.heap h
  have hsame := row_same agh (List.mem_singleton.2 rfl) hh
  rw [hsame] at hkk
  obtain ⟨v, nn, xs, k1, kz, k2, k3, k4, k5, k6⟩ := hkk
  obtain ⟨hv, hnl⟩ := osl_val hrx k1 k2 k3 hb.1
  have hnn : n.den = (nn : Int) := by rw [hb.1, k3]
  have hbk : (nn + k) * te.bytes ≤ 140737488355328 := by
    have := hb.2.1
    rw [hnn, r1] at this
    have h : (((nn + k) * te.bytes : Nat) : Int) ≤ 140737488355328 := by rw [Int.natCast_mul, Int.natCast_add]; exact this
    omega
  obtain ⟨v', w', l1, l2, l3, l4, l5, l6⟩ := append_law (P := P) (ty := o.type) ((hc.ti hlt).slice hk) (hc.ti hle) hsz hz k2.row r3 (by have := hb.2.2; rw [hnn, r1] at this; simp only [maxLen]; omega) hbk
  have h1all : ∀ u ∈ xs ++ news, u.oneCell' = true := fun u hu => by
    rcases List.mem_append.1 hu with hu | hu
    · exact k4 u hu
    · exact r3.2.1 u hu
  have hnt : (ST.a n').den = ((nn + k : Nat) : Int) := by simp only [ST.den, hn', hnn, r1]; omega
  have hin : rowIn E w f' (nn + k) sz (xs ++ news) := by
    refine ⟨fun i hi => ?_, fun i j s u hi hs hu => ?_⟩
    · by_cases hin : i < nn
      · rw [hf1 i (by omega)]; exact k5.1 i hin
      · rw [hf' i (i - nn) (by omega) (by omega)]; exact r4 (i - nn) (by omega)
    · by_cases hin : i < nn
      · rw [hf1 i (by omega)] at hs
        have hj : j < sz := by rw [← k5.1 i hin]; exact (List.getElem?_eq_some_iff.1 hs).1
        have : (i + 1) * sz ≤ nn * sz := Nat.mul_le_mul_right _ hin
        rw [Nat.add_mul] at this
        rw [List.getElem?_append_left (by rw [k2.1]; omega)] at hu
        exact k5.2 i j s u hin hs hu
      · rw [hf' i (i - nn) (by omega) (by omega)] at hs
        have e1 : i * sz + j = nn * sz + ((i - nn) * sz + j) := by
          have : i * sz = nn * sz + (i - nn) * sz := by rw [← Nat.add_mul]; congr 1; omega
          omega
        rw [List.getElem?_append_right (by rw [k2.1]; omega), k2.1, e1, Nat.add_sub_cancel_left] at hu
        exact r5 (i - nn) j s u (by omega) hs hu
  obtain ⟨E', x1, x2, x3, x4, x5⟩ := put_own (h := h) (e := e) (sz := sz) (n := nn) (m := k) st (.inr ⟨⟨_, _, _, hsame⟩, k1, kz, k6⟩) k2.shape (ownsW_row true l2) h1all l4 (fun _ => l6) (nt' := .a n') hnt hin
  unfold Oper.wp
  rw [run_builtin_append ho hcal hx ht (a := a) (w := w) (w' := w') (v' := v') (by rw [hv]; exact l1)]
  obtain ⟨a0, c0, e0⟩ := l5
  refine hK v' w' E' x1 x2 x3 (.osl ⟨a0, nn + k, c0, e0, hnt, ?_⟩ ⟨a0, nn + k, c0, by rw [x4, e0], by rw [hnt]; exact Int.le_refl _, fun _ => e0⟩)
  have hnil : (v' = .slice none 0 0) ↔ a0 = none := by
    rw [e0]
    constructor
    · intro h; simp only [Value.slice.injEq] at h; exact h.1
    · rintro rfl
      rcases l2.2 with ⟨h1, _⟩ | ⟨g, cap, cur, h1, _⟩
      · rw [← e0]; exact h1
      · rw [e0] at h1; simp at h1
  rw [← hnil, andT_den, cmpT_den, l3]
  simp only [cmpDen, ST.den, r1, Bool.and_eq_true, beq_iff_eq]
  rw [hnl]
  constructor
  · rintro ⟨h1, h2⟩; exact ⟨h1, by omega⟩
  · rintro ⟨h1, h2⟩; exact ⟨h1, by omega⟩

theorem local_len_osl (hc : CxOk P cx) {c : Call} (ho : o.op = .call c) (hcal : c.callee = .builtin .len) {x : Operand} {t : Nat} {ti : TI} (hx : c.args.toList = [x]) (ht : c.argTypes.toList = [t]) (hl : look t cx.tt = some ti) {e : TypeId} (hk : ti.k = .slice e)
    {nl : BT} {n : ST} {h : Nat} (hv : rd cx σ T x = some (.osl nl n h)) : Local P cx.gl σ T o ⟨.int .i64 n, [], [], []⟩ := by
  intro B N E a w ff hf' hg st ag agh hT
  have hmem : x ∈ o.op.operands.toList := by simp [ho, Op.operands, Call.operands, hcal, hx]
  obtain ⟨⟨a0, m, c0, e3, e4, _⟩, _⟩ := (rd_sound hv hg st (ag_of ag hmem) hT).osl_inv
  have e1 : c.args = #[x] := Array.ext' (by simpa using hx)
  have e2 : c.argTypes = #[t] := Array.ext' (by simpa using ht)
  have hrun := run_len_any hc hl hk (w := w) (a := a0) (m := m) (c := c0) (ty := o.type)
  refine yields_value st (v := .int .i64 m) ?_ rfl (.int e4)
  simp [execOp, ho, resolve, hcal, e1, e2, invoke, builtin, e3, hrun]

theorem local_index_osl (hc : CxOk P cx) {t e sz : Nat} {ti : TI} (hl : look t cx.tt = some ti) (hk : ti.k = .slice e) (hn : size? cx e = some sz) {x y : Operand} (ho : o.op = .indexAddr t x y) {h ty : Nat} {nl : BT} {n n0 : ST} {gr : Bool} {f : Nat → List SV} {k : IntKind} {i : ST}
    (hv : rd cx σ T x = some (.osl nl n h)) (hh : nth σ.hp h = some (.own ty n0 sz gr f)) (hi : rd cx σ T y = some (.int k i)) (h0 : allT (condsOf σ.gm T) → n.den = n0.den) (h1 : allT (condsOf σ.gm T) → 0 ≤ i.den ∧ i.den < n0.den) : Local P cx.gl σ T o ⟨.optr n h i.den.toNat 0, [], [h], []⟩ := by
  intro B N E a w ff hf' hg st ag agh hT
  have hrx := rd_sound hv hg st (ag_of ag (by simp [ho, Op.operands])) hT
  have hy := (rd_sound hi hg st (ag_of ag (by simp [ho, Op.operands])) hT).int_inv
  obtain ⟨b1, b2⟩ := h1 hT
  have hkk := st.heap h
  rw [row_same agh (List.mem_singleton.2 rfl) hh] at hkk
  obtain ⟨v, m, xs, k1, kz, k2, k3, k4, k5, k6⟩ := hkk
  obtain ⟨hv', _⟩ := osl_val hrx k1 k2 k3 (h0 hT)
  rcases k2.2 with ⟨_, e0⟩ | ⟨b, cap, cur, fr, rfl, hg2, _⟩
  · omega
  have hrun := run_indexAt_sl hc hl hk hn (w := w) (a := ⟨b, 0, none⟩) (m := m) (cap := cap) (k := k) b1 (show i.den < (m : Int) by omega)
  refine yields_value st (v := .pointer (some ⟨b, i.den.toNat * sz + 0, none⟩)) ?_ rfl (.optr ⟨_, _, rfl⟩ ⟨_, m, cap, sz, k1, kz, by rw [h0 hT, k3]; exact Int.le_refl _, fun _ => ⟨b, rfl, rfl⟩⟩)
  simp [execOp, ho, hv', hy, hrun, add_lit]

theorem local_fieldAddr_optr (hc : CxOk P cx) {t i fo ft m h j off : Nat} {n : ST} {x : Operand} (ho : o.op = .fieldAddr t x i) (hv : rd cx σ T x = some (.optr n h j off)) (hf : field? cx t i = some (fo, ft)) (hn : size? cx ft = some (m + 1)) :
    Local P cx.gl σ T o ⟨.optr n h j (off + fo), [], [], []⟩ := by
  intro B N E a w ff hf' hg st ag agh hT
  have hr := rd_sound hv hg st (ag_of ag (by simp [ho, Op.operands])) hT
  obtain ⟨⟨b, o', hx⟩, a0, m0, c0, sz, t1, t2, t3, t4⟩ := hr.optr_inv
  refine yields_value st (v := .pointer (some ⟨b, o' + fo, none⟩)) ?_ rfl (.optr ⟨_, _, rfl⟩ ⟨a0, m0, c0, sz, t1, t2, t3, fun e => ?_⟩)
  · simp [execOp, ho, hx, run_fieldAt hc hf hn, add_lit]
  · obtain ⟨b', e1, e2⟩ := t4 e
    rw [hx] at e2
    simp only [Value.pointer.injEq, Option.some.injEq, Addr.mk.injEq, and_true] at e2
    obtain ⟨rfl, rfl⟩ := e2
    exact ⟨b, e1, by rw [Nat.add_assoc]⟩

/-- A pointer into an owned row. -/
theorem optr_val {E : Env} {w : World} {h j off : Nat} {n n0 : ST} {u v : Value} {gr : Bool} {e : TypeId} {sz m : Nat} {xs : List Value} (hr : Rel E w (.optr n h j off) u) (hτ : E.τ h = some v) (hz : E.ζ h = some sz) (hown : ownsW w gr e sz v m xs) (hn0 : n0.den = (m : Int)) (he : n.den = n0.den) :
    ∃ b cap cur fr, v = .slice (some ⟨b, 0, none⟩) m cap ∧ u = .pointer (some ⟨b, j * sz + off, none⟩) ∧ w.heap[b]? = some (.cells cur e fr) ∧ (fr = (0, 0) ∨ gr = false ∧ fr = (cur.size, cur.size + 1)) ∧ m ≤ cap ∧ cap ≤ maxLen ∧ cur.size = cap * sz ∧ cur.toList.take (m * sz) = xs := by
  obtain ⟨_, a0, m0, c0, sz', t1, t2, t3, t4⟩ := hr.optr_inv
  rw [hτ] at t1
  cases t1
  rw [hz] at t2
  cases t2
  obtain ⟨a1, c1, e4⟩ := hown.shape
  cases e4
  obtain ⟨b, rfl, e5⟩ := t4 (by rw [he, hn0])
  rcases hown.2 with ⟨h1, _⟩ | ⟨g, cap, cur, fr, h1, h2⟩
  · simp at h1
  · cases h1
    exact ⟨b, _, cur, fr, rfl, e5, h2⟩

theorem local_load_optr (hc : CxOk P cx) {t : Nat} {x : Operand} (ho : o.op = .load t x) {h j off n ty sz : Nat} {m m0 : ST} {gr : Bool} {f : Nat → List SV} {s : SV} (hv : rd cx σ T x = some (.optr m0 h j off)) (hn : size? cx t = some n)
    (hh : nth σ.hp h = some (.own ty m sz gr f)) (h0 : allT (condsOf σ.gm T) → m0.den = m.den) (hob : allT (condsOf σ.gm T) → (j : Int) < m.den) (hle : off + n ≤ (f j).length) (hp : pack (isAgg? cx t) (((f j).drop off).take n) = some s) : Local P cx.gl σ T o ⟨s, [], [h], []⟩ := by
  intro B N E a w ff hf hg st ag agh hT
  have hr := rd_sound hv hg st (ag_of ag (by simp [ho, Op.operands])) hT
  have hkk := st.heap h
  rw [row_same agh (List.mem_singleton.2 rfl) hh] at hkk
  obtain ⟨v, m', xs, k1, kz, k2, k3, k4, k5, k6⟩ := hkk
  obtain ⟨b, cap, cur, fr, e1, hx, hg2, hfr, hmc, hcm, hcs, htake⟩ := optr_val hr k1 kz k2 k3 (h0 hT)
  obtain ⟨ti, hti, hsz⟩ := size?_ti hn
  have hj : j < m' := by have := hob hT; omega
  have hfl := k5.1 j hj
  have hbound : (j + 1) * sz ≤ m' * sz := Nat.mul_le_mul_right _ hj
  have hbound2 : m' * sz ≤ cap * sz := Nat.mul_le_mul_right _ hmc
  rw [Nat.add_mul] at hbound
  have hxl := k2.1
  have hsub : RelL E w (((f j).drop off).take n) ((xs.drop (j * sz + off)).take n) := by
    refine ⟨by simp; omega, fun i s v p q => ?_⟩
    rw [List.getElem?_take] at p q
    split at p
    · rename_i e
      rw [if_pos e] at q
      rw [List.getElem?_drop] at p q
      refine .ro (k5.2 j (off + i) s v hj p ?_)
      rw [← Nat.add_assoc]; exact q
    · cases p
  obtain ⟨p1, p2⟩ := pack_rel hp hsub
  have hlen : ((xs.drop (j * sz + off)).take n).length = n := by simp; omega
  have hrun := run_loadAt (hc.ti hti) (w := w) (b := b) (off := j * sz + off) (vs := (xs.drop (j * sz + off)).take n) (fun q v hq => by
    rw [List.getElem?_take] at hq
    split at hq
    · rw [List.getElem?_drop] at hq
      rw [cell_of_row w b (j * sz + off + q) cur ty fr hg2]
      rw [← htake, List.getElem?_take, if_pos (by omega)] at hq
      simpa using hq
    · cases hq) (by rw [hlen, hsz]) (isAgg?_eq hti) p1
  exact yields_value st (by simp [execOp, ho, hx, hrun]) rfl p2

theorem local_store_optr (hc : CxOk P cx) {t : Nat} {x y : Operand} (ho : o.op = .store t x y) {h j off n ty sz : Nat} {m m0 : ST} {gr : Bool} {f f' : Nat → List SV} {s : SV} (hv : rd cx σ T x = some (.optr m0 h j off)) (hs : rdT cx σ T t y = some s) (hn : size? cx t = some n)
    (hh : nth σ.hp h = some (.own ty m sz gr f)) (h0 : m0.den = m.den) (hj : (j : Int) < m.den) (hl : s.cells.length = n) (hle : off + n ≤ (f j).length) (h1 : onesB s.cells = true) (hpl : plainV (.agg (loose.looseL (norm.normL dn s.cells))) = true) (hT0 : allT (condsOf σ.gm T))
    (hfj : f' j = putN (f j) off (loose.looseL (norm.normL dn s.cells))) (hfo : ∀ i, i ≠ j → f' i = f i) : Local P cx.gl σ T o ⟨.tup [], [.put h (.own ty m sz gr f')], [h], []⟩ := by
  intro B N E a w ff hf hg st ag agh hT K' Q hK
  have hr := rd_sound hv hg st (ag_of ag (by simp [ho, Op.operands])) hT
  have hr2 := rdT_sound hs hg st (ag_of ag (by simp [ho, Op.operands])) hT
  have hsame := row_same agh (List.mem_singleton.2 rfl) hh
  have hkk := st.heap h
  rw [hsame] at hkk
  obtain ⟨v, m', xs, k1, kz, k2, k3, k4, k5, k6⟩ := hkk
  obtain ⟨b, cap, cur, fr, e1, hx, hg2, hfr, hmc, hcm, hcs, htake⟩ := optr_val hr k1 kz k2 k3 h0
  obtain ⟨ti, hti, hsz⟩ := size?_ti hn
  have hjm : j < m' := by omega
  have hfl := k5.1 j hjm
  have hbound : (j + 1) * sz ≤ m' * sz := Nat.mul_le_mul_right _ hjm
  have hbound2 : m' * sz ≤ cap * sz := Nat.mul_le_mul_right _ hmc
  rw [Nat.add_mul] at hbound
  have hcs' := cells_of h1 hr2
  have hone := ones_of h1 hcs'
  have hul : (a.eval y).cells.toList.length = n := by rw [← hcs'.1]; exact hl
  have hplain : RelL E w (loose.looseL (norm.normL dn s.cells)) (a.eval y).cells.toList := by
    rw [looseL_eq, normL_eq]
    exact (hcs'.map _ fun s v _ h => h.norm).map _ fun s v _ h => h.loose
  have hpc : ∀ c ∈ loose.looseL (norm.normL dn s.cells), plainV c = true := by
    simp only [plainV] at hpl
    exact (plainL_iff _).1 hpl
  have hpl' : (loose.looseL (norm.normL dn s.cells)).length = n := by rw [hplain.1]; exact hul
  generalize hU : (a.eval y).cells.toList = us at *
  generalize hP : loose.looseL (norm.normL dn s.cells) = ps at *
  let C' : Array Value := (cur.toList.take (j * sz + off) ++ us ++ cur.toList.drop (j * sz + off + us.length)).toArray
  have hle' : j * sz + off + us.length ≤ cur.size := by rw [hul]; omega
  have hC's : C'.size = cur.size := by simp [C']; omega
  have hCget : ∀ q : Nat, C'[q]? = if j * sz + off ≤ q ∧ q < j * sz + off + us.length then us[q - (j * sz + off)]? else cur[q]? := by
    intro q
    have : C'[q]? = (cur.toList.take (j * sz + off) ++ us ++ cur.toList.drop (j * sz + off + us.length))[q]? := by simp [C']
    rw [this]
    split
    · rename_i e
      rw [List.append_assoc, List.getElem?_append_right (by simp; omega), List.getElem?_append_left (by simp; omega)]
      congr 1; simp; omega
    · rename_i e
      by_cases hi : q < j * sz + off
      · rw [List.append_assoc, List.getElem?_append_left (by simp; omega), List.getElem?_take, if_pos hi]; simp
      · rw [List.getElem?_append_right (by simp; omega), List.getElem?_drop, ← Array.getElem?_toList]
        congr 1; simp; omega
  let ys : List Value := C'.toList.take (m' * sz)
  have hysl : ys.length = m' * sz := by simp [ys, hC's]; omega
  have hyget : ∀ q, q < m' * sz → ys[q]? = if j * sz + off ≤ q ∧ q < j * sz + off + us.length then us[q - (j * sz + off)]? else xs[q]? := by
    intro q hq
    simp only [ys]
    rw [List.getElem?_take, if_pos hq, Array.getElem?_toList, hCget]
    split
    · rfl
    · rw [← htake, List.getElem?_take, if_pos hq]; simp
  have hrow : rowIn E w f' m' sz ys := by
    refine ⟨fun i hi => ?_, fun i q s2 v hi hs2 hv2 => ?_⟩
    · by_cases e : i = j
      · subst e; rw [hfj, len_putN]; exact hfl
      · rw [hfo i e]; exact k5.1 i hi
    · have hql : q < sz := by
        have hlen : (f' i).length = sz := by
          by_cases e : i = j
          · subst e; rw [hfj, len_putN]; exact hfl
          · rw [hfo i e]; exact k5.1 i hi
        rw [← hlen]; exact (List.getElem?_eq_some_iff.1 hs2).1
      have hbq : i * sz + q < m' * sz := by
        have : (i + 1) * sz ≤ m' * sz := Nat.mul_le_mul_right _ hi
        rw [Nat.add_mul] at this
        omega
      rw [hyget _ hbq] at hv2
      by_cases e : i = j
      · subst e
        rw [hfj, get_putN _ _ _ _ (by rw [hpl']; exact hle)] at hs2
        by_cases hin : off ≤ q ∧ q < off + n
        · rw [if_pos (by rw [hpl']; exact hin)] at hs2
          rw [if_pos (by rw [hul]; omega)] at hv2
          have e2 : i * sz + q - (i * sz + off) = q - off := by omega
          rw [e2] at hv2
          exact (hplain.2 _ s2 v hs2 hv2).plainOne (hpc s2 (List.mem_of_getElem? hs2)) (hone v (List.mem_of_getElem? hv2))
        · rw [if_neg (by rw [hpl']; exact hin)] at hs2
          rw [if_neg (by rw [hul]; omega)] at hv2
          exact k5.2 i q s2 v hi hs2 hv2
      · rw [hfo i e] at hs2
        have hne : ¬ (j * sz + off ≤ i * sz + q ∧ i * sz + q < j * sz + off + us.length) := by
          rw [hul]
          rcases Nat.lt_or_ge i j with hlt | hge
          · have : (i + 1) * sz ≤ j * sz := Nat.mul_le_mul_right _ hlt
            rw [Nat.add_mul] at this
            omega
          · have : (j + 1) * sz ≤ i * sz := Nat.mul_le_mul_right _ (by omega)
            rw [Nat.add_mul] at this
            omega
        rw [if_neg hne] at hv2
        exact k5.2 i q s2 v hi hs2 hv2
  have hyone : ∀ u ∈ ys, u.oneCell' = true := by
    intro u hu
    obtain ⟨q, hq⟩ := List.mem_iff_getElem?.1 hu
    have hqlt : q < m' * sz := by rw [← hysl]; exact (List.getElem?_eq_some_iff.1 hq).1
    rw [hyget q hqlt] at hq
    split at hq
    · exact hone u (List.mem_of_getElem? hq)
    · exact k4 u (List.mem_of_getElem? hq)
  have hfr' : fr = (0, 0) ∨ cur.size ≤ fr.1 := by
    rcases hfr with h | ⟨_, h⟩
    · exact .inl h
    · rw [h]; exact .inr (Nat.le_refl _)
  have hrun : (Instr.storeAt t (.pointer (some ⟨b, j * sz + off, none⟩)) (a.eval y)).run P w = .ok () (w.setRow b C') := by
    have hS := (hc.ti hti).sizeOf w
    have hsc := run_storeCells_fr (P := P) b (j * sz + off) ty fr us 0 cur w hg2 hfr' (by simpa using hle') hone
    have hne : ((a.eval y).cells.size ≠ ti.size) = False := by
      have : (a.eval y).cells.size = ti.size := by rw [hsz]; rw [← hU] at hul; simpa using hul
      simp [this]
    simp only [Nat.add_zero] at hsc
    simp only [Instr.storeAt, Instr.sureAddr, storeVar, Sem.run_bind, Sem.run_pure, Result.andThen_ok, hS, hne, if_false, hU, hsc]
    rfl
  have hown' : ownsW (w.setRow b C') gr ty sz v (m' + 0) ys := by
    refine ⟨hysl, .inr ⟨b, cap, C', fr, e1, setRow_heap w b cur C' ty fr hg2, ?_, hmc, hcm, by rw [hC's]; exact hcs, rfl⟩⟩
    rw [hC's]; exact hfr
  obtain ⟨E', x1, x2, x3, x4, x5⟩ := put_own (h := h) (e := ty) (sz := sz) (n := m') (m := 0) st (.inr ⟨⟨_, _, _, hsame⟩, k1, kz, k6⟩) k2.shape hown' hyone
    (.inl ⟨rfl, ⟨rfl, rfl, rfl, by simp, fun k _ hk => setRow_other w b k C' (fun e => hk (by rw [e, e1]; rfl))⟩⟩) (fun _ _ => rfl) (nt' := m) (by simpa using k3) (by simpa using hrow)
  unfold Oper.wp
  have : (execOp a.eval o).run P w = .ok .skip (w.setRow b C') := by
    simp only [execOp, ho, hx, Sem.run_bind, hrun, Result.andThen_ok, Sem.run_pure]
  rw [this]
  exact hK undef _ E' x1 x2 x3 (.tup rfl (by simp))

theorem local_strOwn (hc : CxOk P cx) {src dst e : TypeId} {x : Operand} (ho : o.op = .convert src dst x) {ts td te : TI} (hls : look src cx.tt = some ts) (hks : ts.k = .string) (hld : look dst cx.tt = some td) (hkd : td.k = .slice e) (hle : look e cx.tt = some te) (hke : te.k = .int .u8)
    {s : List UInt8} (hv : rd cx σ T x = some (.str s)) (hlen : s.length ≤ maxLen) : Local P cx.gl σ T o ⟨.osl (.l false) (.len s) (lenN σ.hp), [.put (lenN σ.hp) (.own e (.len s) 1 false (byteRow s))], [], []⟩ := by
  intro B N E a w ff hf hg st ag agh hT K' Q hK
  have hx := (rd_sound hv hg st (ag_of ag (by simp [ho, Op.operands])) hT).str_inv
  have hb := st.base
  have hrun := run_bytes_of_string (P := P) w src dst e (bytes s) ((hc.ti hls).string hks) ((hc.ti hld).slice hkd) ((hc.ti hle).int hke)
  obtain ⟨C, hC⟩ : ∃ C, C = bytesRow (bytes s) (grownCap w (bytes s).size 0 e) := ⟨_, rfl⟩
  rw [← hC] at hrun
  obtain ⟨w', hw'⟩ : ∃ w', w' = w.drew.alloc (.cells C e (C.size, C.size + 1)) := ⟨_, rfl⟩
  rw [← hw'] at hrun
  have hold : ∀ b, b < w.heap.size → w'.heap[b]? = w.heap[b]? := fun b hlt => by rw [hw']; exact RowKit.Below.heap_alloc w.drew _ b hlt
  have hnew : w'.heap[w.heap.size]? = some (.cells C e (C.size, C.size + 1)) := by rw [hw']; show (w.heap.push _)[w.heap.size]? = _; simp
  have hsz : w'.heap.size = w.heap.size + 1 := by rw [hw']; show (w.heap.push _).size = _; simp
  have hbs : (bytes s).size = s.length := by simp [bytes, ByteArray.size]
  have hge := grownCap_ge w (bytes s).size 0 e
  have hCs : C.size = grownCap w (bytes s).size 0 e := by
    have key : ∀ (b : ByteArray) (c : Nat), b.size ≤ c → (bytesRow b c).size = c := by
      intro b c hbc
      have : b.data.size = b.size := rfl
      simp only [bytesRow, Array.size_append, Array.size_map, Array.size_replicate]
      omega
    rw [hC]; exact key _ _ hge
  have hCi : ∀ i, i < s.length → C[i]? = some (.int .u8 ((s.getD i 0).toNat : Int)) := by
    intro i hi
    rw [hC]
    simp [bytesRow, bytes, Array.getElem?_append, hi]
  have hfresh := fresh_of agh (List.mem_singleton.2 rfl)
  have hxsl : (C.toList.take s.length).length = s.length := by simp; omega
  have hown' : ownsW w' false e 1 (.slice (some ⟨w.heap.size, 0, none⟩) s.length C.size) (0 + s.length) (C.toList.take s.length) := by
    refine ⟨by rw [hxsl]; omega, .inr ⟨w.heap.size, C.size, C, _, by rw [Nat.zero_add], hnew, .inr ⟨rfl, rfl⟩, by omega, ?_, by omega, by rw [Nat.zero_add, Nat.mul_one]⟩⟩
    rw [hCs]; exact grownCap_le_maxLen _ _ _ _ (by rw [hbs]; exact hlen)
  have hget : ∀ (i : Nat) (u : Value), (C.toList.take s.length)[i]? = some u → u = .int .u8 ((s.getD i 0).toNat : Int) := by
    intro i u hu
    rw [List.getElem?_take] at hu
    split at hu
    · rename_i hi
      rw [Array.getElem?_toList, hCi i hi] at hu
      exact (Option.some.inj hu).symm
    · cases hu
  have hin : rowIn E w (byteRow s) (0 + s.length) 1 (C.toList.take s.length) := by
    refine ⟨fun i _ => rfl, fun i j s' u hi hs hu => ?_⟩
    cases j with
    | zero =>
      simp [byteRow] at hs; subst hs
      rw [hget _ u (by simpa using hu)]
      refine .int ?_
      simp [ST.den]
    | succ j => simp [byteRow] at hs
  obtain ⟨E', x1, x2, x3, x4, x5⟩ := put_own (h := lenN σ.hp) (e := e) (sz := 1) (n := 0) (m := s.length) st (.inl ⟨hfresh, rfl⟩) ⟨_, _, rfl⟩ hown' (fun u hu => by
    obtain ⟨i, hi⟩ := List.mem_iff_getElem?.1 hu
    rw [hget i u hi]; rfl) (.inr ⟨rfl, ⟨by rw [hw']; rfl, by rw [hw']; rfl, by rw [hw']; rfl, by omega, fun k hk _ => hold k hk⟩⟩) (fun h => absurd hfresh h) (nt' := .len s) (by simp [ST.den]) hin
  unfold Oper.wp
  have hex : (execOp a.eval o).run P w = .ok (.value (.slice (some ⟨w.heap.size, 0, none⟩) s.length C.size)) w' := by
    simp only [execOp, ho, hx, Sem.run_bind]
    rw [hrun, hbs, hCs, hbs]
    rfl
  rw [hex]
  exact hK _ w' E' x1 x2 x3 (.osl ⟨_, s.length, _, rfl, rfl, by simp [BT.den]⟩ ⟨_, s.length, _, x4, Int.le_refl _, fun _ => rfl⟩)

theorem local_ownStr (hc : CxOk P cx) {src dst e : TypeId} {x : Operand} (ho : o.op = .convert src dst x) {ts td te : TI} (hls : look src cx.tt = some ts) (hks : ts.k = .slice e) (hld : look dst cx.tt = some td) (hkd : td.k = .string) (hle : look e cx.tt = some te) (hke : te.k = .int .u8)
    {nl : BT} {n n0 : ST} {h : Nat} {ty : TypeId} {gr : Bool} {f : Nat → List SV} (hv : rd cx σ T x = some (.osl nl n h)) (hh : nth σ.hp h = some (.own ty n0 1 gr f)) (h0 : n.den = n0.den) {r : List UInt8} (hr : ByteRow n0.den f ∧ StrRow r n0.den f) : Local P cx.gl σ T o ⟨.str r, [], [h], []⟩ := by
  intro B N E a w ff hf hg st ag agh hT
  obtain ⟨hb, hr⟩ := hr
  have hrx := rd_sound hv hg st (ag_of ag (by simp [ho, Op.operands])) hT
  have hkk := st.heap h
  rw [row_same agh (List.mem_singleton.2 rfl) hh] at hkk
  obtain ⟨v, m, xs, k1, kz, k2, k3, k4, k5, k6⟩ := hkk
  obtain ⟨hev, _⟩ := osl_val hrx k1 k2 k3 h0
  refine yields_value st (v := .string (bytes r)) ?_ rfl (.ro (.str rfl))
  simp only [execOp, ho, Sem.run_bind]
  have hus := (hc.ti hls).slice hks
  have hud := (hc.ti hld).string hkd
  have hue := (hc.ti hle).int hke
  rw [hev]
  have hrl : r.length = m := by have := hr.len; omega
  rcases k2.2 with ⟨e0, e1⟩ | ⟨b, cap, cur, fr, e0, hg2, hfr, hmc, hcm, hcs, htake⟩
  · have : r = [] := List.eq_nil_of_length_eq_zero (by omega)
    subst this
    rw [e0]
    simp [convert, run_underlying hus, run_underlying hud, run_underlying hue, Conv.bytesToString, bytes]
    rfl
  · have := run_convert_bytes_back (P := P) w src dst e ⟨b, 0, none⟩ cap r hus hue hud (fun j hj => by
      have hjm : j < m := by omega
      obtain ⟨t, ht, _⟩ := hb.h j (by omega)
      have e1 := hr.row j t (by omega) ht
      have hxlt : j < xs.length := by rw [k2.1]; omega
      obtain ⟨xj, hxj⟩ : ∃ xj, xs[j]? = some xj := ⟨_, List.getElem?_eq_getElem hxlt⟩
      have hr1 := k5.2 j 0 (.int .u8 t) xj hjm (by rw [ht]; rfl) (by simpa using hxj)
      have hg1 : xj = .int .u8 t.den := (Rel.ro (E := E) hr1).int_inv
      rw [List.getD_eq_getElem?_getD, List.getElem?_eq_getElem hj] at e1
      simp only [Option.getD_some] at e1
      rw [add_lit, Nat.zero_add, cell_of_row w b j cur ty fr hg2]
      rw [← htake, List.getElem?_take, if_pos (by omega), Array.getElem?_toList] at hxj
      rw [e1, hxj, hg1])
    rw [hrl] at this
    rw [e0, this]
    rfl

end
end Go.Sx
/- The executor's step as a whole. -/
namespace Go.Sx
open Go

section
variable {P : Program} {cx : Cx} {σ : Sy} {T : List Nat} {o : Oper} {K : Out → Prop}

theorem move_sound {x : Operand} (ho : o.op = .move x ∨ o.op = .assign x)
    (h : stepMove cx σ T o.type x K) : ∃ r, K r ∧ Local P cx.gl σ T o r := by
  unfold stepMove at h
  split at h
  · split at h
    · split at h
      · exact ⟨_, h, local_nil ho⟩
      · exact h.elim
    · exact h.elim
  · obtain ⟨v, hv, h⟩ := outO_some h
    exact ⟨_, h, local_move ho hv⟩

theorem allJ_get {D : Dn} {gm : List BT} {T : List Nat} {i : Int} {K : Nat → Prop} (h : allJ D gm T i K) (j : Nat) (hj : Ob D gm T (IsJ j i)) : K j := by
  unfold allJ at h
  split at h
  · exact h j hj
  · exact h j hj

theorem index_sl_sound (hc : CxOk P cx) {t e sz : Nat} {x y : Operand} (ho : o.op = .indexAddr t x y) {nl : BT} {n : ST} {f : Nat → List SV} {k : IntKind} {i : ST} {a b : Nat} {c : List SV}
    (hv : rd cx σ T x = some (.sl nl n sz f) ∨ ∃ h, rd cx σ T x = some (.gsl nl n sz f h)) (hi : rd cx σ T y = some (.int k i)) (hl : look t cx.tt = some ⟨.slice e, a, b, c⟩)
    (h : if size? cx e = some sz then Ob cx.D σ.gm T (InB (cx.D.i i) (cx.D.i n)) ∧ allJ cx.D σ.gm T (cx.D.i i) fun j => out K (.rptr (f j)) else False) : ∃ r, K r ∧ Local P cx.gl σ T o r := by
  split at h
  · rename_i hs
    rw [hc.D] at h
    obtain ⟨h1, h2⟩ := h
    rw [Ob_iff] at h1
    have h1 : allT (condsOf σ.gm T) → 0 ≤ i.den ∧ i.den < n.den := fun hT => ⟨(h1 hT).lo, (h1 hT).hi⟩
    refine ⟨_, allJ_get h2 i.den.toNat ((Ob_iff _ _ _).2 fun hT => ?_), local_index_sl hc hl rfl hs ho hv hi h1⟩
    have := (h1 hT).1
    refine ⟨?_⟩
    show ((i.den.toNat : Nat) : Int) = i.den
    omega
  · exact h.elim

theorem local_index_blk (hc : CxOk P cx) {t e sz n : Nat} {ti : TI} (hl : look t cx.tt = some ti) (hk : ti.k = .array n e) (hn : size? cx e = some sz) {x y : Operand} (ho : o.op = .indexAddr t x y) {h off : Nat} {k : IntKind} {i : ST}
    (hv : rd cx σ T x = some (.ptr h off)) (hi : rd cx σ T y = some (.int k i)) {j : Nat} (hj : i.den = (j : Int)) (hjn : j < n) : Local P cx.gl σ T o ⟨.ptr h (off + j * sz), [], [], []⟩ := by
  intro B N E a w ff hf' hg st ag agh hT
  obtain ⟨b, hb, hx⟩ := (rd_sound hv hg st (ag_of ag (by simp [ho, Op.operands])) hT).ptr_inv
  have hy := (rd_sound hi hg st (ag_of ag (by simp [ho, Op.operands])) hT).int_inv
  refine yields_value st (v := .pointer (some ⟨b, off + j * sz, none⟩)) ?_ rfl (.ptr hb rfl)
  have hu := (hc.ti hl).array hk
  obtain ⟨te, hte, hsz⟩ := size?_ti hn
  have hS := (hc.ti hte).sizeOf w
  simp [execOp, ho, hx, hy, hj, Instr.indexAt, run_underlying hu, asIntOf, hjn, hS, hsz, Instr.sureAddr, add_lit]

theorem splitJ_get {F : Nat → Prop} {i : Int} : ∀ (n j : Nat), splitJ i F n j → ∀ k : Nat, i = (k : Int) → j ≤ k → k < j + n → F k
  | 0, j, _, k, _, h1, h2 => by omega
  | n + 1, j, h, k, hk, h1, h2 => by
    rcases Nat.eq_or_lt_of_le h1 with e | e
    · subst e; exact h.1 ⟨hk.symm⟩
    · exact splitJ_get n (j + 1) h.2 k hk e (by omega)

theorem ixArr_sound (hc : CxOk P cx) {t e sz n : Nat} {ti : TI} (hl : look t cx.tt = some ti) (hk : ti.k = .array n e) (hn : size? cx e = some sz) {x y : Operand} (ho : o.op = .indexAddr t x y) {h off : Nat} {k : IntKind} {i : ST}
    (hv : rd cx σ T x = some (.ptr h off)) (hi : rd cx σ T y = some (.int k i)) (hs : stepIxArr cx T h off n sz i K) : ∃ r, K r ∧ Local P cx.gl σ T o r := by
  unfold stepIxArr at hs
  split at hs
  · rename_i q
    split at hs
    · rename_i hb
      exact ⟨_, hs, local_index_blk hc hl hk hn ho hv hi (j := q) rfl (by simpa using hb)⟩
    · exact hs.elim
  · split at hs
    · rw [hc.D] at hs
      obtain ⟨⟨h0, h1⟩, h2⟩ := hs
      have h0 : 0 ≤ i.den := h0
      have h1 : i.den < n := h1
      have hq : i.den = ((i.den.toNat : Nat) : Int) := by omega
      exact ⟨_, splitJ_get n 0 h2 i.den.toNat hq (Nat.zero_le _) (by omega), local_index_blk hc hl hk hn ho hv hi hq (by omega)⟩
    · exact hs.elim

theorem local_max {c : Call} (ho : o.op = .call c) (hcal : c.callee = .builtin .max) {x y : Operand} (hx : c.args.toList = [x, y]) {k : IntKind} {s t : ST} (h1 : rd cx σ T x = some (.int k s)) (h2 : rd cx σ T y = some (.int k t)) :
    Local P cx.gl σ T o ⟨.int k (.a (max s.den t.den)), [], [], []⟩ := by
  intro B N E a w ff hf' hg st ag agh hT
  have mx : x ∈ o.op.operands.toList := by simp [ho, Op.operands, Call.operands, hcal, hx]
  have my : y ∈ o.op.operands.toList := by simp [ho, Op.operands, Call.operands, hcal, hx]
  have e1 : c.args = #[x, y] := Array.ext' (by simpa using hx)
  have hrx := (rd_sound h1 hg st (ag_of ag mx) hT).int_inv
  have hry := (rd_sound h2 hg st (ag_of ag my) hT).int_inv
  refine yields_value st (v := .int k (if t.den > s.den then t.den else s.den)) ?_ rfl (.int ?_)
  · simp [execOp, ho, resolve, hcal, e1, invoke, builtin, hrx, hry, Builtin.max_, Builtin.max2]
  · simp only [ST.den]; split <;> omega

theorem local_min {c : Call} (ho : o.op = .call c) (hcal : c.callee = .builtin .min) {x y : Operand} (hx : c.args.toList = [x, y]) {k : IntKind} {s t : ST} (h1 : rd cx σ T x = some (.int k s)) (h2 : rd cx σ T y = some (.int k t)) :
    Local P cx.gl σ T o ⟨.int k (.a (min s.den t.den)), [], [], []⟩ := by
  intro B N E a w ff hf' hg st ag agh hT
  have mx : x ∈ o.op.operands.toList := by simp [ho, Op.operands, Call.operands, hcal, hx]
  have my : y ∈ o.op.operands.toList := by simp [ho, Op.operands, Call.operands, hcal, hx]
  have e1 : c.args = #[x, y] := Array.ext' (by simpa using hx)
  have hrx := (rd_sound h1 hg st (ag_of ag mx) hT).int_inv
  have hry := (rd_sound h2 hg st (ag_of ag my) hT).int_inv
  refine yields_value st (v := .int k (if t.den < s.den then t.den else s.den)) ?_ rfl (.int ?_)
  · simp [execOp, ho, resolve, hcal, e1, invoke, builtin, hrx, hry, Builtin.min_, Builtin.min2]
  · simp only [ST.den]; split <;> omega

theorem sameOp_eq : ∀ {x y : Operand}, sameOp x y = true → x = y
  | .tmp i, .tmp j, h => by simp [sameOp] at h; rw [h]
  | .tmp _, .const _, h => by simp [sameOp] at h
  | .tmp _, .global _, h => by simp [sameOp] at h
  | .tmp _, .func _, h => by simp [sameOp] at h
  | .const _, _, h => by simp [sameOp] at h
  | .global _, _, h => by simp [sameOp] at h
  | .func _, _, h => by simp [sameOp] at h

theorem make_sound (hc : CxOk P cx) {t : Nat} {x y : Operand} (ho : o.op = .makeSlice t x y) {a b : SV} (hx : rd cx σ T x = some a) (hy : rd cx σ T y = some b) (h : stepMake cx σ T t a b (sameOp x y) K) : ∃ r, K r ∧ Local P cx.gl σ T o r := by
  unfold stepMake at h
  split at h
  · rename_i e _ _ _ hl
    split at h
    · rename_i te kc c hle
      split at h
      · obtain ⟨h1, h2⟩ := h
        rw [hc.D] at h1
        exact ⟨_, h2, local_make0 hc ho hl rfl hle hx hy fun _ => ⟨h1.lo, h1.mem, h1.hi⟩⟩
      · exact h.elim
    · rename_i te kn n kc c _ hle
      split at h
      · rename_i hb
        simp only [Bool.and_eq_true, Nat.blt_eq] at hb
        obtain ⟨h1, h2⟩ := h
        rw [hc.D] at h1 h2
        exact ⟨_, h2, local_makeN hc ho hl rfl hle hx hy (sameOp_eq hb.1) hb.2 fun _ => ⟨h1.lo, h1.mem, h1.hi⟩⟩
      · exact h.elim
    · exact h.elim
  · exact h.elim

theorem buildSlice_sound (hc : CxOk P cx) {t len : Nat} {ps : Array (Nat × Operand)} (ho : o.op = .buildSlice t len ps) (h : stepBuildSlice cx σ T t len ps.toList K) : ∃ r, K r ∧ Local P cx.gl σ T o r := by
  unfold stepBuildSlice at h
  split at h
  · rename_i e _ _ _ vs hl hvs
    split at h
    · rename_i te hle
      split at h
      · rename_i cs h1 hf
        split at h
        · rename_i hb
          simp only [Bool.and_eq_true, Nat.blt_eq] at hb
          rw [hc.D] at h hb
          exact ⟨_, h _ ⟨fun i r hr => (chunks_get _ _ _ _ hr).symm⟩, local_buildSlice hc ho hl rfl hle hvs h1 hf hb.1.1 hb.1.2 (Nat.le_of_ble_eq_true hb.2)⟩
        · exact h.elim
      · exact h.elim
    · exact h.elim
  · exact h.elim

theorem slice_sound (hc : CxOk P cx) {t : Nat} {x : Operand} {lo hi : Option Operand} (ho : o.op = .slice t x lo hi none) {v : SV} {sa sb : Option SV} (hv : rd cx σ T x = some v) (hlo : optRd cx σ T lo = some sa) (hhi : optRd cx σ T hi = some sb)
    (h : stepSlice cx σ T t v sa sb K) : ∃ r, K r ∧ Local P cx.gl σ T o r := by
  unfold stepSlice at h
  split at h
  · rename_i p hp
    have row : ∀ (nl : BT) (n : ST) (sz : Nat) (f : Nat → List SV) (e a b : Nat) (c : List SV), look t cx.tt = some ⟨.slice e, a, b, c⟩ → (rd cx σ T x = some (.sl nl n sz f) ∨ ∃ h, rd cx σ T x = some (.gsl nl n sz f h)) →
        stepSlice.onRow cx σ T sb K nl n sz f e p → ∃ r, K r ∧ Local P cx.gl σ T o r := by
      intro nl n sz f e a b c hl hv h
      unfold stepSlice.onRow at h
      split at h
      · rename_i q hq
        split at h
        · rename_i hs
          rw [hc.D] at h
          obtain ⟨h1, h2⟩ := h
          rw [Ob_iff] at h1
          have h1 : allT (condsOf σ.gm T) → 0 ≤ p.den ∧ p.den ≤ q.den ∧ q.den ≤ n.den := fun hT => ⟨(h1 hT).lo, (h1 hT).le, (h1 hT).hi⟩
          have key : ∀ i j : Nat, (j : Int) = i + p.den → (fun i : Nat => f ((i : Int) + p.den).toNat) i = f j := fun i j hij => by
            show f ((i : Int) + p.den).toNat = f j
            rw [← hij]; rfl
          exact ⟨_, h2 _ _ ⟨rfl, key⟩, local_slice_row hc hl rfl hs ho hv hlo hhi hp hq h1 key⟩
        · exact h.elim
      · exact h.elim
    split at h
    · rename_i nl n sz f e _ _ _ hl; exact row nl n sz f e _ _ _ hl (.inl hv) h
    · rename_i nl n sz f hd e _ _ _ hl; exact row nl n sz f e _ _ _ hl (.inr ⟨hd, hv⟩) h
    · rename_i s _ _ _ hl
      split at h
      · rename_i q hq
        rw [hc.D] at h
        obtain ⟨h1, h2⟩ := h
        rw [Ob_iff] at h1
        exact ⟨_, h2 _ ⟨rfl⟩, local_slice_str hc hl rfl ho hv hlo hhi hp hq fun hT => ⟨(h1 hT).lo, (h1 hT).le, (h1 hT).hi⟩⟩
      · exact h.elim
    · exact h.elim
  · exact h.elim

theorem append_sound (hc : CxOk P cx) {c : Call} (ho : o.op = .call c) (hcal : c.callee = .builtin .append) {x y : Operand} {t e : Nat} {te ti : TI} (hx : c.args.toList = [x, y]) (ht : c.argTypes.toList = [t, t]) (hlt : look t cx.tt = some ti) (hk : ti.k = .slice e) (hle : look e cx.tt = some te) (hz : 0 < te.size)
    {b s : SV} (hb : rd cx σ T x = some b) (hs : rd cx σ T y = some s) (h : appendTo cx σ b s e te.size te.bytes K) : ∃ r, K r ∧ Local P cx.gl σ T o r := by
  unfold appendTo at h
  split at h
  · rename_i m g hrow
    rw [hc.D] at h
    split at h
    · obtain ⟨h1, h2⟩ := h
      exact ⟨_, h2 g _ ⟨rfl, fun _ _ => rfl⟩, local_append_new hc ho hcal hx ht hlt hk hle rfl hz hb hs hrow ⟨h1.mem, h1.hi⟩ rfl fun _ _ => rfl⟩
    · rename_i nl n sz' f hd
      split at h
      · rename_i e' n0 sz'' hh
        split at h
        · rename_i hbq
          simp only [Bool.and_eq_true, beq_iff_eq] at hbq
          obtain ⟨⟨rfl, rfl⟩, rfl⟩ := hbq
          obtain ⟨h1, h2⟩ := h
          have h1 : n.den = n0.den ∧ (n.den + m.den) * te.bytes ≤ 140737488355328 ∧ n.den + m.den ≤ 9223372036854775807 := ⟨h1.eq, h1.mem, h1.hi⟩
          let f' : Nat → List SV := fun i => if (i : Int) < n.den then f i else g ((i : Int) - n.den).toNat
          have k1 : ∀ i : Nat, (i : Int) < n.den → f' i = f i := fun i hi => by simp only [f']; rw [if_pos hi]
          have k2 : ∀ i j : Nat, (i : Int) = n.den + j → (j : Int) < m.den → f' i = g j := fun i j hi _ => by
            simp only [f']; rw [if_neg (by omega)]; congr 1; omega
          exact ⟨_, h2 f' _ ⟨rfl, k1, k2⟩, local_append_more hc ho hcal hx ht hlt hk hle rfl hz hb hh hs hrow h1 rfl k1 k2⟩
        · exact h.elim
      · exact h.elim
    · rename_i nl n hd
      split at h
      · rename_i e' n0 sz'' f hh
        split at h
        · rename_i hbq
          simp only [Bool.and_eq_true, beq_iff_eq] at hbq
          obtain ⟨rfl, rfl⟩ := hbq
          obtain ⟨h1, h2⟩ := h
          have h1 : n.den = n0.den ∧ (n.den + m.den) * te.bytes ≤ 140737488355328 ∧ n.den + m.den ≤ 9223372036854775807 := ⟨h1.eq, h1.mem, h1.hi⟩
          let f' : Nat → List SV := fun i => if (i : Int) < n.den then f i else g ((i : Int) - n.den).toNat
          have k1 : ∀ i : Nat, (i : Int) < n.den → f' i = f i := fun i hi => by simp only [f']; rw [if_pos hi]
          have k2 : ∀ i j : Nat, (i : Int) = n.den + j → (j : Int) < m.den → f' i = g j := fun i j hi _ => by
            simp only [f']; rw [if_neg (by omega)]; congr 1; omega
          exact ⟨_, h2 f' _ ⟨rfl, k1, k2⟩, local_append_own hc ho hcal hx ht hlt hk hle rfl hz hb hh hs hrow h1 rfl k1 k2⟩
        · exact h.elim
      · exact h.elim
    · exact h.elim
  · exact h.elim

theorem copy_sound (hc : CxOk P cx) {c : Call} (ho : o.op = .call c) (hcal : c.callee = .builtin .copy) {x y : Operand} {t t' : Nat} (hx : c.args.toList = [x, y]) (ht : c.argTypes.toList = [t, t']) {d s : SV} (hd : rd cx σ T x = some d) (hs : rd cx σ T y = some s) (h : stepCopy cx σ T t d s K) : ∃ r, K r ∧ Local P cx.gl σ T o r := by
  unfold stepCopy at h
  split at h
  · rename_i e _ _ _ hd' hl
    split at h
    · rename_i ty n sz f sz'' hh hsz
      split at h
      · rename_i m g hrow hzz
        have hzz : sz'' = sz := by simpa using hzz
        subst hzz
        rw [hc.D] at h
        let f' : Nat → List SV := fun i => if (i : Int) < min m.den n.den then g i else f i
        have k1 : ∀ i : Nat, (i : Int) < min m.den n.den → f' i = g i := fun i hi => by simp only [f']; rw [if_pos hi]
        have k2 : ∀ i : Nat, min m.den n.den ≤ (i : Int) → (i : Int) < n.den → f' i = f i := fun i hi _ => by simp only [f']; rw [if_neg (by omega)]
        exact ⟨_, h f' _ ⟨rfl, k1, k2⟩, local_copy hc ho hcal hx ht hl rfl hd hs hh hsz hrow k1 k2⟩
      · exact h.elim
    · exact h.elim
  · exact h.elim

theorem load_mptr_sound (hc : CxOk P cx) {t : Nat} {x : Operand} (ho : o.op = .load t x) {h j off n : Nat} (hv : rd cx σ T x = some (.mptr h j off)) (hn : size? cx t = some n)
    (hs : match nth σ.hp h with
      | some (.row _ m _ f) => Ob cx.D σ.gm T (LtB j (cx.D.i m)) ∧
        if Nat.ble (off + n) (lenN (f j)) then
          match pack (isAgg? cx t) (takeN n (dropN off (f j))) with
          | some v => K ⟨v, [], [h], []⟩
          | none => False
        else False
      | _ => False) : ∃ r, K r ∧ Local P cx.gl σ T o r := by
  split at hs
  · rename_i ty m sz f hh
    obtain ⟨h1, h2⟩ := hs
    rw [hc.D, Ob_iff] at h1
    split at h2
    · rename_i hb
      split at h2
      · rename_i v hp
        rw [takeN_eq, dropN_eq] at hp
        rw [lenN_eq] at hb
        exact ⟨_, h2, local_load_mptr hc ho hv hn hh (fun hT => (h1 hT).h) (Nat.le_of_ble_eq_true hb) hp⟩
      · exact h2.elim
    · exact h2.elim
  · exact hs.elim

theorem store_mptr_sound (hc : CxOk P cx) {t : Nat} {x y : Operand} (ho : o.op = .store t x y) {h j off n : Nat} {v : SV} (hv : rd cx σ T x = some (.mptr h j off)) (hy : rdT cx σ T t y = some v) (hn : size? cx t = some n)
    (hs : match nth σ.hp h with
      | some (.row ty m sz f) => LtB j (cx.D.i m) ∧
        if lenN v.cells == n && Nat.ble (off + n) (lenN (f j)) && onesB v.cells && plainV (.agg (loose.looseL (norm.normL cx.D v.cells))) then
          allSet f j (putN (f j) off (loose.looseL (norm.normL cx.D v.cells))) fun f' => K ⟨.tup [], [.put h (.row ty m sz f')], [h], []⟩
        else False
      | _ => False) : ∃ r, K r ∧ Local P cx.gl σ T o r := by
  split at hs
  · rename_i ty m sz f hh
    obtain ⟨h1, h2⟩ := hs
    split at h2
    · rename_i hb
      simp only [Bool.and_eq_true, beq_iff_eq, lenN_eq] at hb
      rw [hc.D] at h1 h2 hb
      let f' : Nat → List SV := fun i => if i = j then putN (f j) off (loose.looseL (norm.normL dn v.cells)) else f i
      have k1 : f' j = putN (f j) off (loose.looseL (norm.normL dn v.cells)) := by simp [f']
      have k2 : ∀ i : Nat, i ≠ j → f' i = f i := fun i hi => by simp [f', hi]
      exact ⟨_, h2 f' ⟨k1, k2⟩, local_store_mptr hc ho hv hy hn hh h1.h hb.1.1.1 (Nat.le_of_ble_eq_true hb.1.1.2) hb.1.2 hb.2 k1 k2⟩
    · exact h2.elim
  · exact hs.elim

theorem load_optr_sound (hc : CxOk P cx) {t : Nat} {x : Operand} (ho : o.op = .load t x) {h j off n : Nat} {m' : ST} (hv : rd cx σ T x = some (.optr m' h j off)) (hn : size? cx t = some n)
    (hs : match nth σ.hp h with
      | some (.own _ m _ _ f) => Ob cx.D σ.gm T (EqN (cx.D.i m') (cx.D.i m)) ∧ Ob cx.D σ.gm T (LtB j (cx.D.i m)) ∧
        if Nat.ble (off + n) (lenN (f j)) then
          match pack (isAgg? cx t) (takeN n (dropN off (f j))) with
          | some v => K ⟨v, [], [h], []⟩
          | none => False
        else False
      | _ => False) : ∃ r, K r ∧ Local P cx.gl σ T o r := by
  split at hs
  · rename_i ty m sz gr f hh
    obtain ⟨h0, h1, h2⟩ := hs
    rw [hc.D, Ob_iff] at h0 h1
    split at h2
    · rename_i hb
      split at h2
      · rename_i v hp
        rw [takeN_eq, dropN_eq] at hp
        rw [lenN_eq] at hb
        exact ⟨_, h2, local_load_optr hc ho hv hn hh (fun hT => (h0 hT).h) (fun hT => (h1 hT).h) (Nat.le_of_ble_eq_true hb) hp⟩
      · exact h2.elim
    · exact h2.elim
  · exact hs.elim

theorem store_optr_sound (hc : CxOk P cx) {t : Nat} {x y : Operand} (ho : o.op = .store t x y) {h j off n : Nat} {m' : ST} {v : SV} (hT : T = []) (hv : rd cx σ T x = some (.optr m' h j off)) (hy : rdT cx σ T t y = some v) (hn : size? cx t = some n)
    (hs : match nth σ.hp h with
      | some (.own ty m sz gr f) => EqN (cx.D.i m') (cx.D.i m) ∧ LtB j (cx.D.i m) ∧
        if lenN v.cells == n && Nat.ble (off + n) (lenN (f j)) && onesB v.cells && plainV (.agg (loose.looseL (norm.normL cx.D v.cells))) then
          allSet f j (putN (f j) off (loose.looseL (norm.normL cx.D v.cells))) fun f' => K ⟨.tup [], [.put h (.own ty m sz gr f')], [h], []⟩
        else False
      | _ => False) : ∃ r, K r ∧ Local P cx.gl σ T o r := by
  split at hs
  · rename_i ty m sz gr f hh
    obtain ⟨h0, h1, h2⟩ := hs
    split at h2
    · rename_i hb
      simp only [Bool.and_eq_true, beq_iff_eq, lenN_eq] at hb
      rw [hc.D] at h0 h1 h2 hb
      let f' : Nat → List SV := fun i => if i = j then putN (f j) off (loose.looseL (norm.normL dn v.cells)) else f i
      have k1 : f' j = putN (f j) off (loose.looseL (norm.normL dn v.cells)) := by simp [f']
      have k2 : ∀ i : Nat, i ≠ j → f' i = f i := fun i hi => by simp [f', hi]
      exact ⟨_, h2 f' ⟨k1, k2⟩, local_store_optr hc ho hv hy hn hh h0.h h1.h hb.1.1.1 (Nat.le_of_ble_eq_true hb.1.1.2) hb.1.2 hb.2 (by subst hT; trivial) k1 k2⟩
    · exact h2.elim
  · exact hs.elim

theorem stepStr_sound (hc : CxOk P cx) {src dst e : TypeId} {x : Operand} (ho : o.op = .convert src dst x) {ts td : TI} (hls : look src cx.tt = some ts) (hks : ts.k = .slice e) (hld : look dst cx.tt = some td) (hkd : td.k = .string)
    {nl : BT} {n : ST} {f : Nat → List SV} (hv : rd cx σ T x = some (.sl nl n 1 f) ∨ ∃ h, rd cx σ T x = some (.gsl nl n 1 f h)) (h : stepStr cx σ T e n f K) : ∃ r, K r ∧ Local P cx.gl σ T o r := by
  unfold stepStr at h
  split at h
  · rename_i a b c hle
    rw [hc.D] at h
    obtain ⟨h1, h2⟩ := h
    obtain ⟨r, hr⟩ := strRow_exists h1
    exact ⟨_, h2 r hr, local_bytesStr hc ho hls hks hld hkd hle rfl hv fun _ => ⟨h1, hr⟩⟩
  · exact h.elim

theorem stepOp_sound (hc : CxOk P cx) (htab : TabOk P cx.gl cx.tab) (h : stepOp cx σ T o K) : ∃ r, K r ∧ Local P cx.gl σ T o r := by
  unfold stepOp at h
  split at h
  · rename_i x ho; exact move_sound (.inl ho) h
  · rename_i x ho; exact move_sound (.inr ho) h
  · rename_i e ho
    split at h
    · rename_i ti hl; exact ⟨_, h, local_alloc hc ho hl⟩
    · exact h.elim
  · rename_i e x ho
    split at h
    · rename_i ti v hl hv
      split at h
      · rename_i hb
        simp only [Bool.and_eq_true] at hb
        exact ⟨_, h, local_box ho hv hb.2⟩
      · exact h.elim
    · exact h.elim
  · rename_i t ps ho
    split at h
    · rename_i ti vs hl hv
      split at h
      · rename_i cs fs h1 hf hk
        exact ⟨_, h, local_build hc ho hl hv h1 hf (.inl ⟨fs, hk⟩) (fun e n hk' => by rw [hk] at hk'; cases hk')⟩
      · rename_i cs n e h1 hf hk
        split at h
        · rename_i m hm
          exact ⟨_, h, local_build hc ho hl hv h1 hf (.inr ⟨n, e, hk⟩) (fun e' n' hk' => by rw [hk] at hk'; cases hk'; exact ⟨m, hm⟩)⟩
        · exact h.elim
      · exact h.elim
    · exact h.elim
  · rename_i t x ho
    split at h
    · rename_i hd off n hv hn
      split at h
      · rename_i ty cs hh
        split at h
        · rename_i hb
          split at h
          · rename_i v hp
            rw [takeN_eq, dropN_eq] at hp
            refine ⟨_, h, local_load_ptr hc ho hv hn hh ?_ hp⟩
            rw [lenN_eq] at hb
            exact Nat.le_of_ble_eq_true hb
          · exact h.elim
        · exact h.elim
      · exact h.elim
    · rename_i cs n hv hn
      split at h
      · rename_i hb
        obtain ⟨v, hp, h⟩ := outO_some h
        rw [takeN_eq] at hp
        refine ⟨_, h, local_load_rptr hc ho hv hn ?_ hp⟩
        rw [lenN_eq] at hb
        exact Nat.le_of_ble_eq_true hb
      · exact h.elim
    · rename_i hd j off n hv hn
      exact load_mptr_sound hc ho hv hn h
    · rename_i m' hd j off n hv hn
      exact load_optr_sound hc ho hv hn h
    · exact h.elim
  · rename_i t x y ho
    split at h
    · split at h
      · rename_i ty cs hh
        split at h
        · rename_i hb
          simp only [Bool.and_eq_true, beq_iff_eq, lenN_eq] at hb
          exact ⟨_, h, local_store hc ho ‹_› ‹_› ‹_› hh hb.1.1 (Nat.le_of_ble_eq_true hb.1.2) hb.2⟩
        · exact h.elim
      · exact h.elim
    · exact store_mptr_sound hc ho ‹_› ‹_› ‹_› h
    · exact store_optr_sound hc ho rfl ‹_› ‹_› ‹_› h
    · exact h.elim
  · rename_i t x i ho
    split at h
    · rename_i hd off fo ft hv hf
      split at h
      · rename_i m hn; exact ⟨_, h, local_fieldAddr_ptr hc ho hv hf hn⟩
      · exact h.elim
    · rename_i cs fo ft hv hf
      split at h
      · rename_i m hn
        split at h
        · rw [takeN_eq, dropN_eq] at h
          exact ⟨_, h, local_fieldAddr_rptr hc ho hv hf hn⟩
        · exact h.elim
      · exact h.elim
    · rename_i hd j off fo ft hv hf
      split at h
      · rename_i m hn; exact ⟨_, h, local_fieldAddr_mptr hc ho hv hf hn⟩
      · exact h.elim
    · rename_i n' hd j off fo ft hv hf
      split at h
      · rename_i m hn; exact ⟨_, h, local_fieldAddr_optr hc ho hv hf hn⟩
      · exact h.elim
    · exact h.elim
  · rename_i x ho
    split at h
    · rename_i hd off hv; exact ⟨_, h, local_nilCheck ho hv (.inl ⟨_, _, rfl⟩)⟩
    · rename_i cs hv; exact ⟨_, h, local_nilCheck ho hv (.inr (.inl ⟨_, rfl⟩))⟩
    · rename_i hd j off hv; exact ⟨_, h, local_nilCheck ho hv (.inr (.inr (.inl ⟨_, _, _, rfl⟩)))⟩
    · rename_i n hd j off hv; exact ⟨_, h, local_nilCheck ho hv (.inr (.inr (.inr (.inr ⟨_, _, _, _, rfl⟩))))⟩
    · rename_i n sz f hv; exact ⟨_, h, local_nilCheck ho hv (.inr (.inr (.inr (.inl ⟨_, _, _, rfl⟩))))⟩
    · exact h.elim
  · rename_i t x i ho
    split at h
    · rename_i cs fo ft hv hf
      split at h
      · rename_i m hn
        split at h
        · rename_i hb
          obtain ⟨v, hp, h⟩ := outO_some h
          rw [takeN_eq, dropN_eq] at hp
          rw [lenN_eq] at hb
          exact ⟨_, h, local_field hc ho hv hf hn (Nat.le_of_ble_eq_true hb) hp⟩
        · exact h.elim
      · exact h.elim
    · exact h.elim
  · rename_i t x y ho
    split at h
    · rename_i nl n sz f k i e a b c hv hi hl
      exact index_sl_sound hc ho (.inl hv) hi hl h
    · rename_i nl n sz f hd k i e a b c hv hi hl
      exact index_sl_sound hc ho (.inr ⟨hd, hv⟩) hi hl h
    · rename_i hd k i e a b c hv hi hl
      split at h
      · rename_i ty n sz f hh
        split at h
        · rename_i hs
          rw [hc.D] at h
          obtain ⟨h1, h2⟩ := h
          rw [Ob_iff] at h1
          have h1 : allT (condsOf σ.gm T) → 0 ≤ i.den ∧ i.den < n.den := fun hT => ⟨(h1 hT).lo, (h1 hT).hi⟩
          refine ⟨_, allJ_get h2 i.den.toNat ((Ob_iff _ _ _).2 fun hT => ?_), local_index_row hc hl rfl hs ho hv hh hi h1⟩
          have := (h1 hT).1
          refine ⟨?_⟩
          show ((i.den.toNat : Nat) : Int) = i.den
          omega
        · exact h.elim
      · exact h.elim
    · rename_i nl m hd k i e a b c hv hi hl
      split at h
      · rename_i ty n sz gr f hh
        split at h
        · rename_i hs
          rw [hc.D] at h
          obtain ⟨h0, h1, h2⟩ := h
          rw [Ob_iff] at h0 h1
          have h1 : allT (condsOf σ.gm T) → 0 ≤ i.den ∧ i.den < n.den := fun hT => ⟨(h1 hT).lo, (h1 hT).hi⟩
          refine ⟨_, allJ_get h2 i.den.toNat ((Ob_iff _ _ _).2 fun hT => ?_), local_index_osl hc hl rfl hs ho hv hh hi (fun hT => (h0 hT).h) h1⟩
          have := (h1 hT).1
          refine ⟨?_⟩
          show ((i.den.toNat : Nat) : Int) = i.den
          omega
        · exact h.elim
      · exact h.elim
    · rename_i hd off k i n e a b c hv hi hl
      split at h
      · rename_i sz hs; exact ixArr_sound hc hl rfl hs ho hv hi h
      · exact h.elim
    · rename_i n sz f k i n' e a b c hv hi hl
      split at h
      · rename_i hs
        obtain ⟨hs, rfl⟩ := hs
        rw [hc.D] at h
        obtain ⟨h1, h2⟩ := h
        rw [Ob_iff] at h1
        have h1 : allT (condsOf σ.gm T) → 0 ≤ i.den ∧ i.den < n := fun hT => ⟨(h1 hT).lo, (h1 hT).hi⟩
        refine ⟨_, allJ_get h2 i.den.toNat ((Ob_iff _ _ _).2 fun hT => ?_), local_index_arr hc hl rfl hs ho hv hi h1⟩
        have := (h1 hT).1
        refine ⟨?_⟩
        show ((i.den.toNat : Nat) : Int) = i.den
        omega
      · exact h.elim
    · exact h.elim
  · rename_i f fi cs ho
    split at h
    · rename_i vs hfi hv; exact ⟨_, h, local_makeFunc ho hfi hv⟩
    · exact h.elim
  · rename_i t len ps ho; exact buildSlice_sound hc ho h
  · rename_i t l c ho
    split at h
    · rename_i a b ha hb; exact make_sound hc ho ha hb h
    · exact h.elim
  · rename_i t x lo hi ho
    split at h
    · rename_i v a b hv ha hb; exact slice_sound hc ho hv ha hb h
    · exact h.elim
  · rename_i t x ix ho
    split at h
    · rename_i s k i _ _ _ hv hi hl
      rw [hc.D] at h
      obtain ⟨h1, h2⟩ := h
      rw [Ob_iff] at h1
      exact ⟨_, h2 _ ⟨rfl⟩, local_index_str hc hl rfl ho hv hi fun hT => ⟨(h1 hT).lo, (h1 hT).hi⟩⟩
    · exact h.elim
  · rename_i x i ho
    split at h
    · rename_i vs hv
      obtain ⟨v, hp, h⟩ := outO_some h
      exact ⟨_, h, local_extract ho hv hp⟩
    · exact h.elim
  · rename_i op t x ho
    split at h
    · rename_i b hv; exact ⟨_, h, local_not ho hv⟩
    · rename_i k n hv; exact ⟨_, h, local_neg ho hv⟩
    · exact h.elim
  · rename_i op t x y u ho
    split at h
    · rename_i a b hx hy; exact stepBin_sound hc ho hx hy h
    · exact h.elim
  · rename_i src dst x ho
    split at h
    · rename_i k' n k a b c tj hv hl hl'; exact ⟨_, h, local_conv hc ho hl hl' rfl hv⟩
    · rename_i s e a b c a' b' c' hv hl hl'
      split at h
      · rename_i a'' b'' c'' hle
        rw [hc.D] at h
        split at h
        · split at h
          · obtain ⟨h1, h2⟩ := h
            exact ⟨_, h2 _ ⟨rfl⟩, local_strOwn hc ho hl' rfl hl rfl hle rfl hv h1.h⟩
          · exact h.elim
        · obtain ⟨h1, h2⟩ := h
          rw [Ob_iff] at h1
          exact ⟨_, h2 _ ⟨rfl⟩, local_strBytes hc ho hl' rfl hl rfl hle rfl hv fun hT => (h1 hT).h⟩
      · exact h.elim
    · rename_i nl n f a b c e a' b' c' hv hl hl'
      exact stepStr_sound hc ho hl' rfl hl rfl (.inl hv) h
    · rename_i nl n f hd a b c e a' b' c' hv hl hl'
      exact stepStr_sound hc ho hl' rfl hl rfl (.inr ⟨hd, hv⟩) h
    · rename_i nl n hd a b c e a' b' c' hv hl hl'
      split at h
      · rename_i a'' b'' c'' ty n0 gr f hle hh
        rw [hc.D] at h
        obtain ⟨h0, h1, h2⟩ := h
        obtain ⟨r, hr⟩ := strRow_exists h1
        exact ⟨_, h2 r hr, local_ownStr hc ho hl' rfl hl rfl hle rfl hv hh h0.h ⟨h1, hr⟩⟩
      · exact h.elim
    · exact h.elim
  · rename_i c ho
    split at h
    · rename_i hcal
      split at h
      · rename_i x t hx ht
        split at h
        · rename_i nl n sz f e a b c hv hl; exact ⟨_, h, local_len_sl hc ho hcal hx ht hl rfl (.inl hv)⟩
        · rename_i nl n sz f hd e a b c hv hl; exact ⟨_, h, local_len_sl hc ho hcal hx ht hl rfl (.inr ⟨hd, hv⟩)⟩
        · rename_i nl n hd e a b c hv hl; exact ⟨_, h, local_len_osl hc ho hcal hx ht hl rfl hv⟩
        · rename_i s a b c hv hl; exact ⟨_, h, local_len_str hc ho hcal hx ht hl rfl hv⟩
        · rename_i hd e a b c hv hl
          split at h
          · rename_i ty n sz f hh; exact ⟨_, h, local_len_row hc ho hcal hx ht hl rfl hv hh⟩
          · exact h.elim
        · exact h.elim
      · exact h.elim
    · rename_i hcal
      split at h
      · rename_i x y t t' hx ht
        split at h
        · rename_i b s e _ _ _ hb hs hl
          split at h
          · rename_i te hle
            split at h
            · rename_i hcond
              simp only [Bool.and_eq_true, beq_iff_eq, Nat.blt_eq] at hcond
              obtain ⟨rfl, hz⟩ := hcond
              exact append_sound hc ho hcal hx ht hl rfl hle hz hb hs h
            · exact h.elim
          · exact h.elim
        · exact h.elim
      · exact h.elim
    · rename_i hcal
      split at h
      · rename_i x y t t' hx ht
        split at h
        · rename_i d s hd hs; exact copy_sound hc ho hcal hx ht hd hs h
        · exact h.elim
      · exact h.elim
    · rename_i hcal
      split at h
      · rename_i x y hx
        split at h
        · rename_i k a k' b ha hb
          split at h
          · rename_i e
            subst e
            rw [hc.D] at h
            exact ⟨_, h _ ⟨rfl⟩, local_max ho hcal hx ha hb⟩
          · exact h.elim
        · exact h.elim
      · exact h.elim
    · rename_i hcal
      split at h
      · rename_i x y hx
        split at h
        · rename_i k a k' b ha hb
          split at h
          · rename_i e
            subst e
            rw [hc.D] at h
            exact ⟨_, h _ ⟨rfl⟩, local_min ho hcal hx ha hb⟩
          · exact h.elim
        · exact h.elim
      · exact h.elim
    · rename_i f hcal
      split at h
      · rename_i vs hv; exact stepCall_sound hc htab (enters_func ho hcal hv) h
      · exact h.elim
    · rename_i sl hcal
      split at h
      · rename_i vs f hv hs
        refine stepCall_sound hc htab (fun hg => ?_) h
        have := enters_slot (cs := []) ho hcal hv (.inr ⟨rfl, hs⟩) hg
        rwa [List.append_nil] at this
      · rename_i vs f cs hv hs
        exact stepCall_sound hc htab (enters_slot ho hcal hv (.inl hs)) h
      · exact h.elim
    · exact h.elim
  · exact h.elim

end
end Go.Sx
