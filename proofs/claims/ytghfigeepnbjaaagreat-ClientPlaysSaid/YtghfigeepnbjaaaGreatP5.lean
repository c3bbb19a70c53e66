/-
  How a walk by the executor is begun, goes on behind a call, and ends. More words for walks by the executor. A function's contract over the little memory that it speaks of, in a greater one; objects with a map. A function's contract over the little memory that it speaks of, used in a greater one. How a contract over a little memory is proved by a walk. No condition.
-/
import Derived.Test.YtghfigeepnbjaaaGreatRxTab
import Derived.Test.YtghfigeepnbjaaaGreatP4
namespace Go.Proofs.YtghfigeepnbjaaaGreat

abbrev noU : Nat → Prop := fun _ => False
abbrev noLoc : Loc := fun _ => none
theorem fr_none {a w : World} (h : Fr noU a w) : a.grownBy w none := ⟨h.os, h.tape, h.output, h.size, fun i hi _ => h.block i hi (fun h => h)⟩
theorem rel0 (w : World) : HRel w noU noLoc [] w := fun _ _ => ⟨fun i e h => by simp at h, fun i _ h => by simp at h, fun i j _ _ _ h => by simp at h, Fr.refl _ _⟩
theorem HRel.at {w0 : World} {U : Nat → Prop} {ρ : Loc} {H : List HE} {w : World} (h : HRel w0 U ρ H w) : HOk w0 U ρ H w := h ρ (Same.refl _ _)
/-- The end of a function that leaves memory alone but for new blocks. -/
theorem ret_pure {w0 : World} {H : List HE} {s : SV} {V : Value} (h : ∀ ρ, s.den ρ = V) : ∀ ρ' w', HRel w0 noU ρ' H w' → (Ending.returned (s.den ρ') = .returned V ∧ w0.grownBy w' none) :=
  fun ρ' _ hr => ⟨by rw [h ρ'], fr_none hr.at.fr⟩
theorem Need.go {p q : Prop} (hp : p) (hq : q) : Need p q := ⟨hp, hq⟩
theorem Br.both {b : Bool} {t f : Prop} (h1 : b = true → t) (h2 : b = false → f) : Br b t f := ⟨h1, h2⟩
theorem Br.yes {b : Bool} {t f : Prop} (hb : b = true) (h : t) : Br b t f := ⟨fun _ => h, fun h' => by rw [hb] at h'; cases h'⟩
theorem Br.no {b : Bool} {t f : Prop} (hb : b = false) (h : f) : Br b t f := ⟨fun h' => (by rw [hb] at h'; cases h'), fun _ => h⟩
theorem Br.dec {p : Prop} [Decidable p] {t f : Prop} (h1 : p → t) (h2 : ¬ p → f) : Br (decide p) t f := ⟨fun h => h1 (of_decide_eq_true h), fun h => h2 (of_decide_eq_false h)⟩
theorem Br.eqI {a b : Int} {t f : Prop} (h1 : a = b → t) (h2 : ¬ a = b → f) : Br (a == b) t f := ⟨fun h => h1 (by simpa using h), fun h => h2 (by simpa using h)⟩
theorem Br.neI {a b : Int} {t f : Prop} (h1 : ¬ a = b → t) (h2 : a = b → f) : Br (a != b) t f := ⟨fun h => h1 (by simpa using h), fun h => h2 (by simpa using h)⟩
theorem Br.eqS {a b : List UInt8} {t f : Prop} (h1 : a = b → t) (h2 : ¬ a = b → f) : Br (a == b) t f := ⟨fun h => h1 (by simpa using h), fun h => h2 (by simpa using h)⟩
theorem Br.neS {a b : List UInt8} {t f : Prop} (h1 : ¬ a = b → t) (h2 : a = b → f) : Br (a != b) t f := ⟨fun h => h1 (by simpa using h), fun h => h2 (by simpa using h)⟩
theorem Ar.i64 {n : Int} {K : SV → Prop} (h1 : -9223372036854775808 ≤ n) (h2 : n ≤ 9223372036854775807) (q : K (.v (.int .i64 n))) : Ar .i64 n K := .plain (IntWalk.i64_in _ ⟨h1, h2⟩) q

theorem getD_one {vs : List Value} {m sz : Nat} (hl : vs.length = m * sz) (h : vs.all Value.oneCell' = true) : ∀ r c, r < m → c < sz → (vs.getD (r * sz + c) undef).oneCell' = true := fun r c hr hc => by
  have h1 : r * sz + c < vs.length := by
    rw [hl]
    calc r * sz + c < r * sz + sz := by omega
      _ = (r + 1) * sz := by rw [Nat.add_mul, Nat.one_mul]
      _ ≤ m * sz := Nat.mul_le_mul_right _ hr
  rw [List.getD, List.getElem?_eq_getElem h1]
  exact List.all_eq_true.1 h _ (List.getElem_mem h1)
/-- One row behind others. -/
theorem rowsApp_one {k sz : Nat} {f f' g : Nat → Nat → Value} (h1 : ∀ r c, r < k → c < sz → f r c = f' r c) (h2 : ∀ c, c < sz → g 0 c = f' k c) : ∀ r c, r < k + 1 → c < sz → rowsApp k f g r c = f' r c := fun r c hr hc => by
  unfold rowsApp
  by_cases h : r < k
  · rw [if_pos h]; exact h1 r c h hc
  · rw [if_neg h, show r = k by omega, Nat.sub_self]; exact h2 c hc
section
variable {P : Program} {w0 : World} {U : Nat → Prop}
/-- A call of a function that leaves memory alone but for new blocks, and hands back a value. -/
theorem call_pure {f : FuncId} {args : List SV} {H : List HE} {K : SV → List HE → Prop} {A : Array Value} {V : Value} (hA : ∀ ρ, (SV.denL ρ args).toArray = A)
    (hc : ∀ w, Calls P f A w fun e w' => e = .returned V ∧ w.grownBy w' none) (hK : K (.v V) H) : CallN P w0 U f args H K :=
  ⟨fun ρ w hr => by
    rw [hA ρ]
    exact (hc w).mono fun _ _ ⟨he, hg⟩ => ⟨.v V, H, ρ, fun _ _ => he, hr.grown0 hg, Same.refl _ _, Nat.le_refl _, hK⟩⟩
/-- The same where what it asks of the memory is known. -/
theorem call_mem {f : FuncId} {args : List SV} {H : List HE} {K : SV → List HE → Prop} {V : Value}
    (hc : ∀ ρ w, HRel w0 U ρ H w → Calls P f (SV.denL ρ args).toArray w fun e w' => e = .returned V ∧ w.grownBy w' none) (hK : K (.v V) H) : CallN P w0 U f args H K :=
  ⟨fun ρ w hr => (hc ρ w hr).mono fun _ _ ⟨he, hg⟩ => ⟨.v V, H, ρ, fun _ _ => he, hr.grown0 hg, Same.refl _ _, Nat.le_refl _, hK⟩⟩
theorem quiet_pure {f : FuncId} {args : List SV} {H : List HE} {K : SV → Prop} {A : Array Value} {V : Value} (hA : ∀ ρ, (SV.denL ρ args).toArray = A)
    (hc : ∀ w, Calls P f A w fun e w' => e = .returned V ∧ w.grownBy w' none) (hK : K (.v V)) : CallQ P w0 U f args H K :=
  ⟨V, fun ρ w hr => by
    rw [hA ρ]
    exact (hc w).mono fun _ _ ⟨he, hg⟩ => ⟨he, hr.grown0 hg⟩, hK⟩
theorem quiet_mem {f : FuncId} {args : List SV} {H : List HE} {K : SV → Prop} {V : Value}
    (hc : ∀ ρ w, HRel w0 U ρ H w → Calls P f (SV.denL ρ args).toArray w fun e w' => e = .returned V ∧ w.grownBy w' none) (hK : K (.v V)) : CallQ P w0 U f args H K :=
  ⟨V, fun ρ w hr => (hc ρ w hr).mono fun _ _ ⟨he, hg⟩ => ⟨he, hr.grown0 hg⟩, hK⟩
/-- A call that writes one known block. -/
theorem call_write {f : FuncId} {args : List SV} {H : List HE} {K : SV → List HE → Prop} {V : Value} (i : Nat) {t : TypeId} {cs : List SV} (cs' : List SV) (hi : getH H i = .blk t cs) (hbd : SV.bddL H.length cs' = true)
    (hc : ∀ ρ w b, HRel w0 U ρ H w → ρ i = some ⟨b, 0, none⟩ → Blk w b t (SV.denL ρ cs).toArray → Calls P f (SV.denL ρ args).toArray w fun e w' => e = .returned V ∧ Blk w' b t (SV.denL ρ cs').toArray ∧ w.grownBy w' (some b))
    (hK : setHK H i (.blk t cs') fun H' => K (.v V) H') : CallN P w0 U f args H K :=
  ⟨fun ρ w hr => by
    obtain ⟨b, hb, hblk⟩ := hr.at.blk (getH_blk hi)
    have hilt : i < H.length := (List.getElem?_eq_some_iff.1 (getH_blk hi)).1
    refine (hc ρ w b hr hb hblk).mono fun _ _ ⟨he, hbl, hg⟩ => ⟨.v V, _, ρ, fun _ _ => he, fun ρ'' hs => ?_, Same.refl _ _, by simp, setHK_spec _ _ _ _ hK⟩
    have hs : Same H.length ρ ρ'' := by simpa using hs
    have hb' : ρ'' i = some ⟨b, 0, none⟩ := by rw [hs i hilt]; exact hb
    exact (hr ρ'' hs).write (getH_blk hi) trivial trivial trivial hb' ⟨b, hb', by rw [denL_same hs cs' hbd]; exact hbl⟩ hg⟩
end
/-- A slice that reads as n rows. -/
def RowOk (w : World) (a : Option Addr) (sz n : Nat) (f : Nat → Nat → Value) : Prop :=
  0 < n → ∃ b off, a = some ⟨b, off, none⟩ ∧ b < w.heap.size ∧ ∀ r c, r < n → c < sz → w.cell? ⟨b, off + r * sz + c, none⟩ = some (f r c)
def SliceV (w : World) (v : Value) (sz n : Nat) (f : Nat → Nat → Value) : Prop := ∃ a cap, v = .slice a n cap ∧ n ≤ cap ∧ cap ≤ maxLen ∧ RowOk w a sz n f
theorem RowOk.grown {w w' : World} {a : Option Addr} {sz n : Nat} {f : Nat → Nat → Value} (h : RowOk w a sz n f) (hg : w.grownBy w' none) : RowOk w' a sz n f := fun hn => by
  obtain ⟨b, off, rfl, hb, hc⟩ := h hn
  exact ⟨b, off, rfl, Nat.lt_of_lt_of_le hb hg.size, fun r c hr hc' => (World.cell?_of_block (w := w) (hg.block b hb (by simp))).trans (hc r c hr hc')⟩
theorem SliceV.grown {w w' : World} {v : Value} {sz n : Nat} {f : Nat → Nat → Value} (h : SliceV w v sz n f) (hg : w.grownBy w' none) : SliceV w' v sz n f := by
  obtain ⟨a, cap, rfl, h1, h2, h3⟩ := h
  exact ⟨a, cap, rfl, h1, h2, h3.grown hg⟩
theorem relR (w : World) (rows : List (Option Addr × Nat × Nat × (Nat → Nat → Value))) (h : ∀ (i : Nat) (a : Option Addr) (sz n : Nat) (f : Nat → Nat → Value), rows[i]? = some (a, sz, n, f) → RowOk w a sz n f) :
    HRel w noU (fun i => (rows[i]?).bind (·.1)) (rows.map fun q => .row q.2.1 q.2.2.1 q.2.2.2) w := by
  intro ρ' hs
  have nw : ∀ (i : Nat) (e : HE), (rows.map fun q => HE.row q.2.1 q.2.2.1 q.2.2.2)[i]? = some e → ¬ e.wr := fun i e hi => by
    rw [List.getElem?_map] at hi
    obtain ⟨q, _, rfl⟩ := Option.map_eq_some_iff.1 hi
    exact fun h => h
  refine ⟨fun i e hi => ?_, fun i e hi hw => absurd hw (nw i e hi), fun i j d e _ hi hd => absurd hd (nw i d hi), Fr.refl _ _⟩
  have hlt := (List.getElem?_eq_some_iff.1 hi).1
  have hi' := hi
  rw [List.getElem?_map] at hi
  obtain ⟨⟨a, sz, n, f⟩, hq, rfl⟩ := Option.map_eq_some_iff.1 hi
  intro hn
  obtain ⟨b, off, rfl, hb, hc⟩ := h i a sz n f hq hn
  exact ⟨b, off, by rw [hs i hlt]; simp [hq], hb, hc⟩
theorem relR1 {w : World} {a : Option Addr} {sz n : Nat} {f : Nat → Nat → Value} (h : RowOk w a sz n f) : HRel w noU (fun i => ([(a, sz, n, f)][i]?).bind (·.1)) [.row sz n f] w :=
  relR w [(a, sz, n, f)] fun i a' sz' n' f' hi => by
    cases i with
    | zero => cases hi; exact h
    | succ i => simp at hi
theorem relR2 {w : World} {a : Option Addr} {sz n : Nat} {f : Nat → Nat → Value} (h : RowOk w a sz n f) {a2 : Option Addr} {sz2 n2 : Nat} {f2 : Nat → Nat → Value} (h2 : RowOk w a2 sz2 n2 f2) : HRel w noU (fun i => ([(a, sz, n, f), (a2, sz2, n2, f2)][i]?).bind (·.1)) [.row sz n f, .row sz2 n2 f2] w :=
  relR w [(a, sz, n, f), (a2, sz2, n2, f2)] fun i a' sz' n' f' hi => by
    rcases i with _ | _ | i
    · cases hi; exact h
    · cases hi; exact h2
    · simp at hi
section
variable {P : Program} {w0 : World} {U : Nat → Prop}
theorem sl_rs {ρ : Loc} {H : List HE} {w : World} (h : HRel w0 U ρ H w) {i sz n n' cap : Nat} {f : Nat → Nat → Value} (hi : getH H i = .row sz n' f) (hn : n ≤ n') (h1 : n ≤ cap) (h2 : cap ≤ maxLen) : SliceV w ((SV.rs i n cap).den ρ) sz n f :=
  ⟨ρ i, cap, rfl, h1, h2, fun h0 => by
    obtain ⟨b, off, hb, hlt, hc⟩ := h.at.ent i _ (getH_row hi) (by omega)
    exact ⟨b, off, hb, hlt, fun r c hr hcz => hc r c (by omega) hcz⟩⟩
theorem sl_os {ρ : Loc} {H : List HE} {w : World} (h : HRel w0 U ρ H w) {i sz n : Nat} {ty : TypeId} {f : Nat → Nat → Value} (hi : getH H i = .own ty sz n f) : SliceV w ((SV.os i n).den ρ) sz n f := by
  refine ⟨_, _, rfl, ?_, ?_, fun hn => ?_⟩
  · obtain ⟨_, ⟨hv, h0⟩ | ⟨g, cap, cur, hv, _, _, h1, _⟩⟩ := h.at.ent i _ (getH_own hi)
    · omega
    · simp only [SV.den] at hv; injection hv with _ _ hv; rw [hv]; exact h1
  · obtain ⟨_, ⟨hv, h0⟩ | ⟨g, cap, cur, hv, _, _, _, h1, _⟩⟩ := h.at.ent i _ (getH_own hi)
    · simp only [SV.den] at hv; injection hv with _ _ hv; rw [hv]; exact Nat.zero_le _
    · simp only [SV.den] at hv; injection hv with _ _ hv; rw [hv]; exact h1
  · obtain ⟨a, ha, hb, hc⟩ := rowOf_spec (i := i) (by rw [hi]; rfl) h.at hn
    exact ⟨a.block, a.off, by simp [atB', ha], hb, hc⟩
/-- A slice that nothing else is. -/
theorem own_sl {w : World} {base : Nat} {ty : TypeId} {sz n : Nat} {v : Value} {f : Nat → Nat → Value} (h : w.ownsRow base ty sz v n (cellsF sz f n)) : SliceV w v sz n f := by
  obtain ⟨_, ⟨rfl, rfl⟩ | ⟨g, cap, cur, rfl, _, hk, h1, h2, hs, ht⟩⟩ := h
  · exact ⟨none, 0, rfl, Nat.le_refl _, Nat.zero_le _, fun h => absurd h (by omega)⟩
  · refine ⟨_, cap, rfl, h1, h2, fun hn => ⟨g, 0, rfl, Blk.lt (t := ty) (cs := cur) hk, fun r c hr hc => ?_⟩⟩
    rw [Nat.zero_add, Blk.cell (t := ty) (cs := cur) hk, ← Array.getElem?_toList]
    have hget := cellsF_get sz f n r c hr hc
    rw [← ht, List.getElem?_take] at hget
    split at hget
    · exact hget
    · cases hget
/-- A call that hands back a slice of its own, or something with one. -/
theorem call_own {f : FuncId} {args : List SV} {H : List HE} {K : SV → List HE → Prop} (ty : TypeId) (sz n : Nat) (g : Nat → Nat → Value) (sv : SV) (V : Value → Value) (hV : ∀ ρ' v, (SV.os H.length n).den ρ' = v → sv.den ρ' = V v)
    (hc : ∀ ρ w, HRel w0 U ρ H w → Calls P f (SV.denL ρ args).toArray w fun e w' => ∃ v, e = .returned (V v) ∧ w'.ownsRow w.heap.size ty sz v n (cellsF sz g n) ∧ w.grownBy w' none)
    (hK : appK H (.own ty sz n g) fun H' => K sv H') : CallN P w0 U f args H K :=
  ⟨fun ρ w hr => (hc ρ w hr).mono fun e w' ⟨v, he, hown, hg⟩ => by
    have hK := appK_spec _ _ _ hK
    obtain ⟨ad, had⟩ : ∃ ad : Option Addr, ∀ ρ'' : Loc, ρ'' H.length = ad → (SV.os H.length n).den ρ'' = v ∧ ∀ b, ad = some b → w.heap.size ≤ b.block := by
      obtain ⟨_, ⟨rfl, rfl⟩ | ⟨gb, cap, cur, rfl, hb, _⟩⟩ := hown
      · exact ⟨none, fun ρ'' hρ => ⟨by simp [SV.den, atB', capB, hρ], fun b hb => by cases hb⟩⟩
      · exact ⟨some ⟨gb, 0, some cap⟩, fun ρ'' hρ => ⟨by simp [SV.den, atB', capB, hρ], fun b hb' => by cases hb'; exact hb⟩⟩
    let ρ' : Loc := fun k => if k = H.length then ad else ρ k
    have hs : Same H.length ρ ρ' := fun i hi => by simp [ρ', Nat.ne_of_lt hi]
    have key : ∀ ρ'', Same (H ++ [HE.own ty sz n g]).length ρ' ρ'' → Same H.length ρ ρ'' ∧ ρ'' H.length = ad := fun ρ'' h'' =>
      ⟨hs.trans (h''.mono (n := H.length) (by simp)) (Nat.le_refl _), by rw [h'' H.length (by simp)]; simp [ρ']⟩
    refine ⟨sv, _, ρ', fun ρ'' h'' => by rw [he, hV ρ'' v (had ρ'' (key ρ'' h'').2).1], fun ρ'' h'' => ?_, hs, by simp, hK⟩
    obtain ⟨k1, k2⟩ := key ρ'' h''
    have hok := hr ρ'' k1
    obtain ⟨hv, hb⟩ := had ρ'' k2
    refine addH (keepH hok hg (fun _ _ _ _ _ _ => by simp) (fun k hk => by cases hk)) ?_ (fun b hb' => ?_) (fun i d hi hl b1 hb1 hf => ?_)
    · show w'.ownsRow 0 ty sz ((SV.os H.length n).den ρ'') n _
      rw [hv]
      obtain ⟨h0, h⟩ := hown
      refine ⟨h0, ?_⟩
      rcases h with h | ⟨gb, cap, cur, h1, _, h3⟩
      · exact .inl h
      · exact .inr ⟨gb, cap, cur, h1, Nat.zero_le _, h3⟩
    · rw [k2] at hb'
      exact .inl (Nat.le_trans hok.fr.size (hb b hb'))
    · rw [k2] at hb1
      exact absurd (live_lt hok hi hl hf) (Nat.not_lt.2 (hb b1 hb1))⟩
/-- The same; the name of what is new is counted. -/
theorem call_ownL {f : FuncId} {args : List SV} {H : List HE} {K : SV → List HE → Prop} (ty : TypeId) (sz n : Nat) (g : Nat → Nat → Value) (sv : Nat → SV) (V : Value → Value) (hV : ∀ N ρ' v, (SV.os N n).den ρ' = v → (sv N).den ρ' = V v)
    (hc : ∀ ρ w, HRel w0 U ρ H w → Calls P f (SV.denL ρ args).toArray w fun e w' => ∃ v, e = .returned (V v) ∧ w'.ownsRow w.heap.size ty sz v n (cellsF sz g n) ∧ w.grownBy w' none)
    (hK : lenK H fun N => appK H (.own ty sz n g) fun H' => K (sv N) H') : CallN P w0 U f args H K :=
  call_own ty sz n g (sv H.length) V (hV H.length) hc (lenK_spec hK)
/-- A call that writes one cell of a row of one's own. -/
theorem call_cell {f : FuncId} {args : List SV} {H : List HE} {K : SV → List HE → Prop} {V : Value} (i r c : Nat) {ty : TypeId} {sz n : Nat} {g : Nat → Nat → Value} (x : Value) (hi : getH H i = .own ty sz n g) (hr : r < n) (hcz : c < sz)
    (hc : ∀ ρ w b cur, HRel w0 U ρ H w → atR ρ i (r * sz + c) = some ⟨b, r * sz + c, none⟩ → Blk w b ty cur → cur[r * sz + c]? = some (g r c) → Calls P f (SV.denL ρ args).toArray w fun e w' => e = .returned V ∧ Blk w' b ty (cur.setIfInBounds (r * sz + c) x) ∧ w.grownBy w' (some b))
    (hK : setHK H i (.own ty sz n (updR g r c [x])) fun H' => K (.v V) H') : CallN P w0 U f args H K :=
  ⟨fun ρ w hrel => by
    have hi' := getH_own hi
    have hilt : i < H.length := (List.getElem?_eq_some_iff.1 hi').1
    obtain ⟨_, ⟨_, h0⟩ | ⟨b, cap, cur, hv, _, hk, h1, h2, h3, h4⟩⟩ := hrel.at.ent i _ hi'
    · omega
    · have hv0 := hv
      simp only [SV.den, atB'] at hv
      injection hv with hv _ _
      obtain ⟨⟨bb, oo, ss⟩, had, hae⟩ := Option.map_eq_some_iff.1 hv
      injection hae with hb1 hb2 _
      simp only at hb1 hb2
      subst hb1; subst hb2
      have hget := cellsF_get sz g n r c hr hcz
      rw [← h4, List.getElem?_take] at hget
      have hjn : r * sz + c < n * sz := by
        split at hget
        · assumption
        · cases hget
      rw [if_pos hjn, Array.getElem?_toList] at hget
      refine (hc ρ w bb cur hrel (by simp [atR, had]) hk hget).mono fun e w' ⟨he, hbl, hg⟩ => ⟨.v V, _, ρ, fun _ _ => he, fun ρ'' hs => ?_, Same.refl _ _, by simp, setHK_spec _ _ _ _ hK⟩
      have hs : Same H.length ρ ρ'' := by simpa using hs
      have hb' : ρ'' i = some ⟨bb, 0, ss⟩ := by rw [hs i hilt]; exact had
      refine (hrel ρ'' hs).write hi' trivial trivial trivial hb' (d' := .own ty sz n (updR g r c [x])) ?_ hg
      show World.ownsRow _ 0 ty sz ((SV.os i n).den ρ'') n _
      have : (SV.os i n).den ρ'' = .slice (some ⟨bb, 0, none⟩) n cap := by rw [← hv0]; simp [SV.den, atB', capB, had, hb']
      rw [this]
      have hlt : r * sz + c < cur.size := (Array.getElem?_eq_some_iff.1 hget).1
      refine own_stored h3 h1 h4 hr (by simp; omega) ?_ h2
      have e1 : (cur.toList.take (r * sz + c) ++ [x] ++ cur.toList.drop (r * sz + c + [x].length)).toArray = cur.setIfInBounds (r * sz + c) x := by
        apply Array.ext'
        rw [Array.toList_setIfInBounds, set_mid _ _ _ (by simpa using hlt)]
        simp
      rw [e1]
      exact hbl⟩
end
/-- What is handed back of a row of one's own. -/
theorem own_out {w0 : World} {ρ : Loc} {H : List HE} {w : World} (h : HRel w0 noU ρ H w) {i sz n : Nat} {ty : TypeId} {f : Nat → Nat → Value} (hi : getH H i = .own ty sz n f) : w.ownsRow w0.heap.size ty sz ((SV.os i n).den ρ) n (cellsF sz f n) := by
  obtain ⟨hl, hv⟩ := h.at.ent i _ (getH_own hi)
  refine ⟨hl, ?_⟩
  rcases hv with hv | ⟨g, cap, cur, hv, _, hk⟩
  · exact .inl hv
  · refine .inr ⟨g, cap, cur, hv, ?_, hk⟩
    have hv' := hv
    simp only [SV.den, atB'] at hv'
    injection hv' with hv' _ _
    obtain ⟨a, ha, hae⟩ := Option.map_eq_some_iff.1 hv'
    rcases h.at.own i _ (getH_own hi) trivial a.block ⟨a, ha, rfl⟩ with h1 | h1
    · injection hae with hae
      rw [← hae]; exact h1
    · exact h1.elim
theorem owns_congr {w : World} {base ty sz n n' : Nat} {v : Value} {f g : Nat → Nat → Value} (h : w.ownsRow base ty sz v n (cellsF sz f n)) (hn : n = n') (hf : ∀ r c, r < n → c < sz → f r c = g r c) : w.ownsRow base ty sz v n' (cellsF sz g n') := by
  subst hn
  rw [← cellsF_congr n hf]; exact h
/-- The slots at a loop's head: those from a place on are forgotten; some are told. -/
def headTm (a : Nat) (sl : List (Nat × SV)) : Nat → List SV → List SV
  | _, [] => []
  | k, x :: xs => (match lookS sl k with
    | some y => y
    | none => match Nat.ble a k with
      | true => .junk
      | false => x) :: headTm a sl (k + 1) xs
where
  lookS : List (Nat × SV) → Nat → Option SV
    | [], _ => none
    | (i, y) :: r, k => match Nat.beq i k with
      | true => some y
      | false => lookS r k
/-- A loop: slots from a on, and those that are told, are written in it. -/
theorem loop_at {m : Nat} {ih : CK} {tm : List SV} {H : List HE} {Ke : Nat → List SV → List HE → Prop} {Kr : List SV → List HE → Prop} (a : Nat) {α : Type} (inv : α → Prop) (μ : α → Nat) (sl : α → List (Nat × SV)) (sh : α → List HE) (x0 : α) (h0 : inv x0)
    (hl : Less m tm H (headTm a (sl x0) 0 tm) (sh x0))
    (hr : ∀ x, inv x → forceL (headTm a (sl x) 0 tm) fun tm1 => forceH (sh x) fun H1 => ih tm1 H1 (fun tm' H' => ∃ y, inv y ∧ μ y < μ x ∧ Less m tm' H' (headTm a (sl y) 0 tm) (sh y)) Ke Kr) :
    LoopN (∃ (α : Type) (inv : α → Prop) (μ : α → Nat) (st : α → List SV) (sh : α → List HE),
      (∃ x, inv x ∧ Less m tm H (st x) (sh x)) ∧
      ∀ x, inv x → forceL (st x) fun tm1 => forceH (sh x) fun H1 => ih tm1 H1 (fun tm' H' => ∃ y, inv y ∧ μ y < μ x ∧ Less m tm' H' (st y) (sh y)) Ke Kr) :=
  ⟨α, inv, μ, fun x => headTm a (sl x) 0 tm, sh, ⟨x0, h0, hl⟩, hr⟩
/-- As many, all of them forgotten. -/
noncomputable def junkB (xs : List SV) : List SV → Bool :=
  @List.rec SV (fun _ => List SV → Bool) (fun ys => match ys with | [] => true | _ => false) (fun _ _ ih ys => match ys with | .junk :: r => ih r | _ => false) xs
theorem leT_junk {σ : List (Option Nat)} : ∀ {xs ys : List SV}, junkB xs ys = true → leT σ xs ys
  | [], [], _ => trivial
  | _ :: _, .junk :: _, h => ⟨trivial, leT_junk h⟩
  | [], _ :: _, h => by cases h
/-- What is told anew of a block at a loop's head: all of it, or some cells. -/
inductive HU where
  | ent (e : HE)
  | cells (l : List (Nat × SV))
noncomputable def lookC (sl : List (Nat × SV)) (k : Nat) (d : SV) : SV :=
  @List.rec (Nat × SV) (fun _ => SV) d (fun q _ ih => match Nat.beq q.1 k with
    | true => q.2
    | false => ih) sl
noncomputable def setCells (sl : List (Nat × SV)) (cs : List SV) : Nat → List SV :=
  @List.rec SV (fun _ => Nat → List SV) (fun _ => []) (fun x _ ih k => lookC sl k x :: ih (Nat.add k 1)) cs
noncomputable def HU.on (u : HU) (e : HE) : HE := match u with
  | .ent e' => e'
  | .cells l => match e with
    | .blk t cs => .blk t (setCells l cs 0)
    | e => e
noncomputable def lookU (hl : List (Nat × HU)) (k : Nat) (e : HE) : HE :=
  @List.rec (Nat × HU) (fun _ => HE) e (fun q _ ih => match Nat.beq q.1 k with
    | true => q.2.on e
    | false => ih) hl
noncomputable def headH (hl : List (Nat × HU)) (ex : List HE) (H : List HE) : Nat → List HE :=
  @List.rec HE (fun _ => Nat → List HE) (fun _ => ex) (fun e _ ih k => lookU hl k e :: ih (Nat.add k 1)) H
theorem forceL_eq : ∀ (l : List SV) (K : List SV → Prop), forceL l K = K l
  | [], _ => rfl
  | x :: xs, K => by
    unfold forceL
    cases x <;> simp only [nj] <;> exact forceL_eq xs _
theorem forceH_eq : ∀ (l : List HE) (K : List HE → Prop), forceH l K = K l
  | [], _ => rfl
  | x :: xs, K => by
    unfold forceH
    cases x <;> simp only [forceL_eq] <;> exact forceH_eq xs _
/-- The same as loop_at; of the memory what is told anew is told (hl), and what is new (ex). -/
theorem loop_up {m : Nat} {ih : CK} {tm : List SV} {H : List HE} {Ke : Nat → List SV → List HE → Prop} {Kr : List SV → List HE → Prop} (a : Nat) {α : Type} (inv : α → Prop) (μ : α → Nat) (sl : α → List (Nat × SV)) (hu : α → List (Nat × HU)) (ex : α → List HE) (x0 : α) (h0 : inv x0)
    (hl : forceL (headTm a (sl x0) 0 tm) fun tm1 => forceH (headH (hu x0) (ex x0) H 0) fun H1 => Less m tm H tm1 H1)
    (hr : ∀ x, inv x → forceL (headTm a (sl x) 0 tm) fun tm1 => forceH (headH (hu x) (ex x) H 0) fun H1 => ih tm1 H1 (fun tm' H' => ∃ y, inv y ∧ μ y < μ x ∧ forceL (headTm a (sl y) 0 tm) fun tm2 => forceH (headH (hu y) (ex y) H 0) fun H2 => Less m tm' H' tm2 H2) Ke Kr) :
    LoopN (∃ (α : Type) (inv : α → Prop) (μ : α → Nat) (st : α → List SV) (sh : α → List HE),
      (∃ x, inv x ∧ Less m tm H (st x) (sh x)) ∧
      ∀ x, inv x → forceL (st x) fun tm1 => forceH (sh x) fun H1 => ih tm1 H1 (fun tm' H' => ∃ y, inv y ∧ μ y < μ x ∧ Less m tm' H' (st y) (sh y)) Ke Kr) := by
  have e : (fun tm' H' y => forceL (headTm a (sl y) 0 tm) fun tm2 => forceH (headH (hu y) (ex y) H 0) fun H2 => Less m tm' H' tm2 H2) = fun tm' H' y => Less m tm' H' (headTm a (sl y) 0 tm) (headH (hu y) (ex y) H 0) := by
    funext tm' H' y
    rw [forceL_eq, forceH_eq]
  refine ⟨α, inv, μ, fun x => headTm a (sl x) 0 tm, fun x => headH (hu x) (ex x) H 0, ⟨x0, h0, by have := hl; rwa [forceL_eq, forceH_eq] at this⟩, fun x hx => ?_⟩
  have h := hr x hx
  have e' := fun tm' H' y => congrFun (congrFun (congrFun e tm') H') y
  simp only [e'] at h
  exact h
/-- The state behind a part of the text is told (slots from a on are forgotten); what is behind it is walked from there. -/
theorem cut_up (id : Nat) {m : Nat} {tm : List SV} {H : List HE} {F : (List SV → List HE → Prop) → Prop} {Kn : List SV → List HE → Prop} (a : Nat) {α : Type} (inv : α → Prop) (sl : α → List (Nat × SV)) (hu : α → List (Nat × HU)) (ex : α → List HE)
    (hk : ∀ y, inv y → forceL (headTm a (sl y) 0 tm) fun tm1 => forceH (headH (hu y) (ex y) H 0) fun H1 => Kn tm1 H1)
    (h : F (fun tm' H' => ∃ y, inv y ∧ forceL (headTm a (sl y) 0 tm) fun tm2 => forceH (headH (hu y) (ex y) H 0) fun H2 => Less m tm' H' tm2 H2)) : CutN id m tm H F Kn := by
  have e : (fun tm' H' => ∃ y, inv y ∧ forceL (headTm a (sl y) 0 tm) fun tm2 => forceH (headH (hu y) (ex y) H 0) fun H2 => Less m tm' H' tm2 H2) = fun tm' H' => ∃ y, inv y ∧ Less m tm' H' (headTm a (sl y) 0 tm) (headH (hu y) (ex y) H 0) := by
    funext tm' H'
    simp only [forceL_eq, forceH_eq]
  rw [e] at h
  refine .cut ⟨α, inv, fun y => headTm a (sl y) 0 tm, fun y => headH (hu y) (ex y) H 0, h, fun y hy => ?_⟩
  have := hk y hy
  rwa [forceL_eq, forceH_eq] at this
end Go.Proofs.YtghfigeepnbjaaaGreat
namespace Go.Proofs.YtghfigeepnbjaaaGreat
theorem Br.tt {t f : Prop} (h : t) : Br true t f := Br.yes rfl h
theorem Br.ff {t f : Prop} (h : f) : Br false t f := Br.no rfl h
theorem Br.nt {t f : Prop} (h : f) : Br (!true) t f := Br.no rfl h
theorem Br.nf {t f : Prop} (h : t) : Br (!false) t f := Br.yes rfl h
theorem Br.nd {p : Prop} [Decidable p] {t f : Prop} (h1 : ¬ p → t) (h2 : p → f) : Br (!decide p) t f := ⟨fun h => h1 (by simpa using h), fun h => h2 (by simpa using h)⟩
theorem Br.eeI {a : Int} {t f : Prop} (h : t) : Br (a == a) t f := Br.yes (by simp) h
theorem Br.nnI {a : Int} {t f : Prop} (h : f) : Br (a != a) t f := Br.no (by simp) h
/-- A call, by what its text comes to; the first m blocks keep their names. -/
theorem x_callsK {P : Program} {w0 : World} {U : Nat → Prop} {T : Tab} (hT : TabOK P T) (m : Nat) {f : FuncId} {fn : Func} {c : Code} {args : Array Value} {K : SV → List HE → Prop} (hf : P.funcs[f]? = some fn) (hb : fn.body = some c)
    (svs : List SV) (H : List HE) (hm : m ≤ H.length) (ρ : Loc) (hbT : SV.bddL H.length svs = true) {w : World} (hargs : SV.denL ρ svs = args.toList) (hh : HRel w0 U ρ H w)
    (h : xCode P w0 U T m c (svs ++ List.replicate (fn.ntmps - svs.length) (.v undef)) H
      (fun tm H' => xRet T fn.results tm H' fun s => K s H') (fun _ _ _ => False)
      (fun tm H' => xRet T fn.results tm H' fun s => K s H')) : Calls P f args w fun e w' => ∃ s H' ρ' v, e = .returned v ∧ K s H' ∧ HRel w0 U ρ' H' w' ∧ Same m ρ ρ' ∧ m ≤ H'.length ∧ ∀ ρ'', Same H'.length ρ' ρ'' → v = s.den ρ'' := by
  have hsz : args.size = svs.length := by rw [← Array.length_toList, ← hargs, denL_length]
  have hrel : Rel w0 U ρ (svs ++ List.replicate (fn.ntmps - svs.length) (.v undef)) H { tmps := args ++ Array.replicate (fn.ntmps - args.size) undef, defers := [] } w := by
    refine ⟨rfl, fun ρ' hs => ⟨⟨by simp [hsz], fun i sv hi hj => ?_⟩, hh ρ' hs⟩⟩
    have e : (args ++ Array.replicate (fn.ntmps - args.size) undef).toList = SV.denL ρ' (svs ++ List.replicate (fn.ntmps - svs.length) (.v undef)) := by
      rw [denL_append, denL_same hs svs hbT, hargs, hsz]
      have : ∀ n, SV.denL ρ' (List.replicate n (.v undef)) = List.replicate n undef := fun n => by
        induction n with
        | zero => rfl
        | succ n ih => simp [List.replicate_succ, SV.denL, SV.den, ih]
      rw [this]
      simp
    rw [← Array.getElem?_toList, e, denL_get, hi]
    rfl
  refine calls_of_wp hf hb (wp_mono (xCode_sound hT (ρ0 := ρ) c _ _ _ _ _ h ρ _ w hrel ⟨Same.refl _ _, hm⟩) fun e a' w' he => ?_)
  have fin : ∀ {ρ' : Loc} {tm' : List SV} {H' : List HE}, Rel w0 U ρ' tm' H' a' w' → Same m ρ ρ' ∧ m ≤ H'.length → (xRet T fn.results tm' H' fun s => K s H') →
      ∃ v, (results fn a'.tmps).run P w' = .ok v w' ∧ ∃ s H' ρ' v', Ending.returned v = .returned v' ∧ K s H' ∧ HRel w0 U ρ' H' w' ∧ Same m ρ ρ' ∧ m ≤ H'.length ∧ ∀ ρ'', Same H'.length ρ' ρ'' → v' = s.den ρ'' := fun {ρ' tm' H'} hr' hs' hK => by
    obtain ⟨s, hK, hs⟩ := xRet_sound (w0 := w0) (U := U) hT hK
    have e1 := hs ρ' _ w' (hr'.2 ρ' (Same.refl _ _)).1 (hr'.2 ρ' (Same.refl _ _)).2
    refine ⟨_, e1, s, _, ρ', _, rfl, hK, hr'.h, hs'.1, hs'.2, fun ρ'' h'' => ?_⟩
    have e2 := hs ρ'' _ w' (hr'.2 ρ'' h'').1 (hr'.2 ρ'' h'').2
    rw [e1] at e2
    injection e2
  cases e with
  | normal =>
    obtain ⟨ρ', tm', H', hr', hs', hK⟩ := he
    obtain ⟨v, h1, h2⟩ := fin hr' hs' hK
    exact ⟨hr'.1, v, h1, h2⟩
  | ret =>
    obtain ⟨ρ', tm', H', hr', hs', hK⟩ := he
    obtain ⟨v, h1, h2⟩ := fin hr' hs' hK
    exact ⟨hr'.1, v, h1, h2⟩
  | exit i => obtain ⟨_, _, _, _, _, h⟩ := he; exact h.elim
  | goto l => exact he.elim
  | panic ch => exact he.elim
  | outgrown => exact he.elim
/-- A call in place of which its text is walked. -/
theorem call_inline {w0 : World} {U : Nat → Prop} {f : FuncId} {args : List SV} {H : List HE} {K : SV → List HE → Prop} (m : Nat) (hm : m = H.length) {fn : Func} {c : Code} (hf : Tryz.prog.funcs[f]? = some fn) (hb : fn.body = some c) (hbd : SV.bddL m args = true)
    (h : xCode Tryz.prog w0 U tab m c (args ++ List.replicate (fn.ntmps - args.length) (.v undef)) H
      (fun tm H' => xRet tab fn.results tm H' fun s => K s H') (fun _ _ _ => False) (fun tm H' => xRet tab fn.results tm H' fun s => K s H')) : CallN Tryz.prog w0 U f args H K :=
  ⟨fun ρ w hr => by
    subst hm
    refine (x_callsK tabOK H.length hf hb args H (Nat.le_refl _) ρ hbd rfl hr h).mono ?_
    rintro e w' ⟨s, H', ρ', v, rfl, hK, h1, h2, h3, hv⟩
    exact ⟨s, H', ρ', fun ρ'' h'' => by rw [hv ρ'' h''], h1, h2, h3, hK⟩⟩
theorem call_inlineL {w0 : World} {U : Nat → Prop} {f : FuncId} {args : List SV} {H : List HE} {K : SV → List HE → Prop} {fn : Func} {c : Code} (hf : Tryz.prog.funcs[f]? = some fn) (hb : fn.body = some c)
    (h : lenK H fun m => Need (SV.bddL m args = true) (xCode Tryz.prog w0 U tab m c (args ++ List.replicate (fn.ntmps - args.length) (.v undef)) H
      (fun tm H' => xRet tab fn.results tm H' fun s => K s H') (fun _ _ _ => False) (fun tm H' => xRet tab fn.results tm H' fun s => K s H'))) : CallN Tryz.prog w0 U f args H K := by
  obtain ⟨h1, h2⟩ := lenK_spec h
  exact call_inline _ rfl hf hb h1 h2
/-- A block that may have been written, and was not. -/
theorem fr_back {w w' : World} {b : Nat} {ty : TypeId} {cs : Array Value} (hf : Fr (fun k => k = b) w w') (h : Blk w b ty cs) (h' : Blk w' b ty cs) : w.grownBy w' none :=
  ⟨hf.os, hf.tape, hf.output, hf.size, fun i hi _ => by
    by_cases hib : i = b
    · subst hib
      exact h'.trans h.symm
    · exact hf.block i hi hib⟩
/-- A row, and a block beside it. -/
theorem relRB {w : World} {a : Option Addr} {sz n : Nat} {f : Nat → Nat → Value} (hr : RowOk w a sz n f) {b : Nat} {ty : TypeId} {cs : List SV} {vs : Array Value} (hb : Blk w b ty vs)
    (hcs : ∀ ρ : Loc, ρ 0 = a → (SV.denL ρ cs).toArray = vs) (hap : ∀ x, a = some x → 0 < n → x.block ≠ b) :
    HRel w (fun k => k = b) (fun i => if i = 0 then a else some ⟨b, 0, none⟩) [.row sz n f, .blk ty cs] w := by
  intro ρ' hs
  have h0 : ρ' 0 = a := hs 0 (by simp)
  have h1 : ρ' 1 = some ⟨b, 0, none⟩ := hs 1 (by simp)
  refine ⟨fun i e hi => ?_, fun i e hi hw x hx => ?_, fun i j d e hij hi hd hj hl x hx hy => ?_, Fr.refl _ _⟩
  · rcases i with _ | _ | i
    · simp at hi; subst hi
      intro hn
      obtain ⟨b', off, h2, h3⟩ := hr hn
      exact ⟨b', off, h0.trans h2, h3⟩
    · simp at hi; subst hi
      exact ⟨b, h1, by rw [hcs ρ' h0]; exact hb⟩
    · simp at hi
  · rcases i with _ | _ | i
    · simp at hi; subst hi; exact hw.elim
    · simp at hi; subst hi
      obtain ⟨y, hy, rfl⟩ := hx
      rw [h1] at hy; cases hy
      exact .inr rfl
    · simp at hi
  · rcases i with _ | _ | i
    · simp at hi; subst hi; exact hd.elim
    · rcases j with _ | _ | j
      · simp at hj; subst hj
        simp at hi; subst hi
        obtain ⟨a1, ha1, rfl⟩ := hx
        obtain ⟨a2, ha2, he⟩ := hy
        rw [h1] at ha1; cases ha1
        rw [h0] at ha2
        exact hap a2 ha2 hl he
      · exact absurd rfl hij
      · simp at hj
    · simp at hi
/-- A slice of a row that is known lies apart from a block that is. -/
theorem rs_apart {w0 : World} {U : Nat → Prop} {ρ : Loc} {H : List HE} {w : World} (h : HRel w0 U ρ H w) {i j sz n n' cap : Nat} {f : Nat → Nat → Value} {ty : TypeId} {cs : List SV} (hj : getH H j = .row sz n' f) (hi : getH H i = .blk ty cs) (hn : n ≤ n') {b : Nat} (hb : ρ i = some ⟨b, 0, none⟩) :
    ∀ a k c, (SV.rs j n cap).den ρ = .slice (some a) k c → 0 < k → a.block ≠ b := fun a k c hd hk => by
  simp only [SV.den] at hd
  injection hd with h1 h2 _
  subst h2
  have hij : i ≠ j := fun e => by rw [e, hj] at hi; cases hi
  have := h.at.dis i j _ _ hij (getH_blk hi) trivial (getH_row hj) (show 0 < n' by omega) b ⟨_, hb, rfl⟩
  exact fun e => this ⟨a, h1, e⟩
end Go.Proofs.YtghfigeepnbjaaaGreat
namespace Go.Proofs.YtghfigeepnbjaaaGreat

theorem getH_res {H : List HE} {i : Nat} {wr : Bool} {Z : Nat → Prop} {Q : World → Prop} (h : getH H i = .res wr Z Q) : H[i]? = some (.res wr Z Q) := by
  have := getH_spec H i (by rw [h]; exact fun h => by cases h)
  rw [this, h]
section
variable {P : Program} {w0 : World} {U : Nat → Prop}
end
end Go.Proofs.YtghfigeepnbjaaaGreat
namespace Go.Proofs.YtghfigeepnbjaaaGreat

def HE.ren (σ : List (Option Nat)) : HE → HE
  | .blk t cs => .blk t (SV.renL σ cs)
  | .iter j ents clock vis => .iter (renI σ j) ents clock vis
  | e => e
/-- The blocks of what may be written. -/
def SpecU (ρ : Loc) (H : List HE) : Nat → Prop := fun b => ∃ (i : Nat) (e : HE), H[i]? = some e ∧ e.wr ∧ e.foot ρ i b
/-- What is read alone is as it was. -/
def keptR : List HE → List HE → Prop
  | _, [] => True
  | H0, .row sz n f :: r => H0.head? = some (.row sz n f) ∧ keptR H0.tail r
  | H0, .res true _ _ :: r => true = true ∧ keptR H0.tail r
  | H0, .res false Z Q :: r => H0.head? = some (.res false Z Q) ∧ keptR H0.tail r
  | H0, _ :: r => keptR H0.tail r
/-- A function's contract over a little memory. -/
structure Spec (P : Program) (f : FuncId) (args : List SV) (H0 : List HE) (R : SV → List HE → Prop) : Prop where
  out : ∀ ρ w, HRel w (SpecU ρ H0) ρ H0 w → Calls P f (SV.denL ρ args).toArray w fun e w' => ∃ s H1 ρ1, R s H1 ∧ keptR H0 H1 ∧ (∀ ρ'', Same H1.length ρ1 ρ'' → e = .returned (s.den ρ'')) ∧ HRel w (SpecU ρ H0) ρ1 H1 w' ∧ Same H0.length ρ ρ1 ∧ H0.length ≤ H1.length
mutual
theorem den_all {σ : List (Option Nat)} {ρ ρ'' : Loc} (hρ : ∀ j, ρ'' j = ρ (renI σ j)) : ∀ y : SV, y.den ρ'' = (y.ren σ).den ρ
  | .junk => rfl
  | .v _ => rfl
  | .kb _ => rfl
  | .p i o => by simp only [SV.den, SV.ren, atB, hρ i]
  | .s i o n c => by simp only [SV.den, SV.ren, atB, hρ i]
  | .rp i z r c => by simp only [SV.den, SV.ren, atR, hρ i]
  | .rs i n c => by simp only [SV.den, SV.ren, hρ i]
  | .os i n => by simp only [SV.den, SV.ren, atB', capB, hρ i]
  | .ov i z l n => by simp only [SV.den, SV.ren, capB, hρ i]
  | .m i => by simp only [SV.den, SV.ren, mapV, hρ i]
  | .fn f caps => by
    simp only [SV.den, SV.ren, List.map_map]
    congr 2
    refine List.map_congr_left fun q _ => ?_
    simp only [Function.comp, capV, atB, hρ _]
  | .agg cs => by simp only [SV.den, SV.ren, denL_all hρ cs]
  | .tup vs => by simp only [SV.den, SV.ren, denL_all hρ vs]
theorem denL_all {σ : List (Option Nat)} {ρ ρ'' : Loc} (hρ : ∀ j, ρ'' j = ρ (renI σ j)) : ∀ cs : List SV, SV.denL ρ'' cs = SV.denL ρ (SV.renL σ cs)
  | [] => rfl
  | c :: cs => by simp only [SV.denL, SV.renL, den_all hρ c, denL_all hρ cs]
end
theorem HE.ren_wr {σ : List (Option Nat)} {e : HE} : (e.ren σ).wr ↔ e.wr := by cases e <;> exact Iff.rfl
theorem HE.ren_live {σ : List (Option Nat)} {e : HE} : (e.ren σ).live ↔ e.live := by cases e <;> exact Iff.rfl
theorem HE.ren_foot {σ : List (Option Nat)} {e : HE} {ρ ρ'' : Loc} {i j : Nat} (h : ρ'' i = ρ j) {b : Nat} : (e.ren σ).foot ρ j b ↔ e.foot ρ'' i b := by
  cases e <;> simp only [HE.ren, HE.foot, h]
theorem HE.ren_ok {σ : List (Option Nat)} {e : HE} {ρ ρ'' : Loc} (hρ : ∀ j, ρ'' j = ρ (renI σ j)) {i j : Nat} (h : ρ'' i = ρ j) {w : World} : (e.ren σ).ok ρ w j ↔ e.ok ρ'' w i := by
  cases e with
  | none => exact Iff.rfl
  | blk t cs => simp only [HE.ren, HE.ok, h, denL_all hρ cs]
  | row sz n f => simp only [HE.ren, HE.ok, h]
  | own t sz n f =>
    have : (SV.os j n).den ρ = (SV.os i n).den ρ'' := by simp only [SV.den, atB', capB, h]
    simp only [HE.ren, HE.ok, this]
  | mp ag zk es st => simp only [HE.ren, HE.ok, h]
  | obj1 t p q ag zk es => simp only [HE.ren, HE.ok, h]
  | iter jj ents clock vis => simp only [HE.ren, HE.ok, h, hρ jj]
  | res wr Z Q => exact Iff.rfl
def mrgH : List HE → List Nat → List HE → List HE
  | H, [], H1 => H ++ H1
  | H, k :: σ, e :: H1 => mrgH (H.set k e) σ H1
  | H, _ :: _, [] => H
theorem mrgH_len : ∀ (σ : List Nat) (H H1 : List HE), (mrgH H σ H1).length = H.length + (H1.length - σ.length)
  | [], H, H1 => by simp [mrgH]
  | k :: σ, H, e :: H1 => by
    rw [mrgH, mrgH_len σ (H.set k e) H1]
    simp
  | _ :: _, H, [] => by simp [mrgH]
theorem mrgH_get : ∀ (σ : List Nat) (H H1 : List HE), σ.Nodup → (∀ k ∈ σ, k < H.length) → σ.length ≤ H1.length → ∀ (k : Nat) (e : HE), (mrgH H σ H1)[k]? = some e →
    (k < H.length ∧ k ∉ σ ∧ H[k]? = some e) ∨ ∃ j, H1[j]? = some e ∧ ((j < σ.length ∧ σ[j]? = some k) ∨ (σ.length ≤ j ∧ k = H.length + (j - σ.length)))
  | [], H, H1, _, _, _, k, e, h => by
    simp only [mrgH, List.getElem?_append] at h
    split at h
    · exact .inl ⟨by assumption, by simp, h⟩
    · exact .inr ⟨k - H.length, h, .inr ⟨by simp, by simp; omega⟩⟩
  | a :: σ, H, e0 :: H1, hn, hl, hle, k, e, h => by
    simp only [List.nodup_cons] at hn
    rw [mrgH] at h
    rcases mrgH_get σ (H.set a e0) H1 hn.2 (fun k hk => by simpa using hl k (by simp [hk])) (by simpa using hle) k e h with ⟨h1, h2, h3⟩ | ⟨j, h1, h2⟩
    · rw [List.getElem?_set] at h3
      split at h3
      · rename_i hak
        subst hak
        split at h3
        · cases h3
          exact .inr ⟨0, rfl, .inl ⟨by simp, rfl⟩⟩
        · cases h3
      · rename_i hak
        exact .inl ⟨by simpa using h1, by simp only [List.mem_cons, not_or]; exact ⟨fun h => hak h.symm, h2⟩, h3⟩
    · refine .inr ⟨j + 1, by simpa using h1, ?_⟩
      rcases h2 with ⟨h2, h3⟩ | ⟨h2, h3⟩
      · exact .inl ⟨by simpa using h2, by simpa using h3⟩
      · simp only [List.length_set] at h3
        exact .inr ⟨by simpa using h2, by simp only [List.length_cons]; omega⟩
  | _ :: _, _, [], _, _, hle, _, _, _ => by simp at hle
theorem keptR_row : ∀ {H0 H1 : List HE}, keptR H0 H1 → ∀ {j : Nat} {e : HE}, H1[j]? = some e → ¬ e.wr → e.live → H0[j]? = some e
  | _, [], _, j, e, h, _, _ => by simp at h
  | H0, x :: r, hk, j, e, h, hw, hl => by
    have tl : keptR H0.tail r := by
      cases x with
      | res w Z Q => cases w <;> exact hk.2
      | row _ _ _ => exact hk.2
      | _ => exact hk
    cases j with
    | zero =>
      simp only [List.getElem?_cons_zero, Option.some.injEq] at h
      subst h
      cases x with
      | none => exact hl.elim
      | row sz n f => rw [← List.head?_eq_getElem?]; exact hk.1
      | res w Z Q =>
        cases w with
        | true => exact absurd rfl hw
        | false => rw [← List.head?_eq_getElem?]; exact hk.1
      | _ => exact absurd trivial hw
    | succ j =>
      have := keptR_row tl (by simpa using h) hw hl
      rw [← this, List.getElem?_tail]
/-- New names: those of the little memory, then the new ones. -/
def spσ (σ : List Nat) (n : Nat) (k : Nat) : List (Option Nat) := σ.map some ++ (List.range k).map (fun t => some (n + t))
theorem spσ_lt {σ : List Nat} {n k j : Nat} (h : j < σ.length) : renI (spσ σ n k) j = σ.getD j 0 := by
  unfold renI spσ
  rw [List.getElem?_append_left (by simpa using h)]
  simp [h, List.getD]
theorem spσ_ge {σ : List Nat} {n k t : Nat} (h : t < k) : renI (spσ σ n k) (σ.length + t) = n + t := by
  unfold renI spσ
  rw [List.getElem?_append_right (by simp)]
  simp [h]
/-- The contract, used where more is known. -/
theorem spec_frame {P : Program} {w0 : World} {U : Nat → Prop} {f : FuncId} {args args0 : List SV} {H H0 : List HE} {R : SV → List HE → Prop} (hS : Spec P f args0 H0 R) (σ : List Nat)
    (hl : σ.length = H0.length) (hn : σ.Nodup) (hb0 : (H0.all (HE.bdd H0.length) && SV.bddL H0.length args0) = true) (hH : ∀ j : Nat, j < H0.length → H[σ.getD j 0]? = (H0[j]?).map (HE.ren (spσ σ H.length 0))) (ha : args = SV.renL (spσ σ H.length 0) args0) {ρ : Loc} {w : World} (hr : HRel w0 U ρ H w) :
    Calls P f (SV.denL ρ args).toArray w fun e w' => ∃ s H1 ρ', R s H1 ∧ H0.length ≤ H1.length ∧ (∀ ρ'', Same (mrgH H σ (H1.map (HE.ren (spσ σ H.length (H1.length - σ.length))))).length ρ' ρ'' → e = .returned ((SV.ren (spσ σ H.length (H1.length - σ.length)) s).den ρ'')) ∧
      HRel w0 U ρ' (mrgH H σ (H1.map (HE.ren (spσ σ H.length (H1.length - σ.length))))) w' ∧ Same H.length ρ ρ' ∧ H.length ≤ (mrgH H σ (H1.map (HE.ren (spσ σ H.length (H1.length - σ.length))))).length ∧
      (∃ T : Nat → Prop, Fr T w w' ∧ ∀ b, T b → ∃ (i : Nat) (d : HE), H[i]? = some d ∧ d.live ∧ d.foot ρ i b) ∧
      ∀ d, H1 = H0 ++ [d] → d.wr → ∀ b, (d.ren (spσ σ H.length 0)).foot ρ' H.length b → w.heap.size ≤ b := by
  have hb1 : ∀ e ∈ H0, e.bdd H0.length = true := fun e he => by
    simp only [Bool.and_eq_true, List.all_eq_true] at hb0
    exact hb0.1 e he
  have hb2 : SV.bddL H0.length args0 = true := by simp only [Bool.and_eq_true] at hb0; exact hb0.2
  have big : ∀ (j : Nat) (e : HE), H0[j]? = some e → H[σ.getD j 0]? = some (e.ren (spσ σ H.length 0)) := fun j e he => by
    rw [hH j (List.getElem?_eq_some_iff.1 he).1, he]; rfl
  have inj : ∀ j k, j < σ.length → k < σ.length → σ.getD j 0 = σ.getD k 0 → j = k := fun j k hj hk h => by
    simp only [List.getD, List.getElem?_eq_getElem hj, List.getElem?_eq_getElem hk, Option.getD_some] at h
    have hp := List.pairwise_iff_getElem.1 hn
    rcases Nat.lt_trichotomy j k with h1 | h1 | h1
    · exact absurd h (hp j k hj hk h1)
    · exact h1
    · exact absurd h.symm (hp k j hk hj h1)
  -- the little memory
  let ρs : Loc := fun j => ρ (renI (spσ σ H.length 0) j)
  have ρs_lt : ∀ j, j < σ.length → ρs j = ρ (σ.getD j 0) := fun j hj => by simp only [ρs, spσ_lt hj]
  have hok0 := hr.at
  have small : HRel w (SpecU ρs H0) ρs H0 w := fun ρ' hs => by
    have ft : ∀ (j : Nat) (e : HE) (b : Nat), H0[j]? = some e → (e.foot ρ' j b ↔ (e.ren (spσ σ H.length 0)).foot ρ (σ.getD j 0) b) := fun j e b he => by
      have hj := (List.getElem?_eq_some_iff.1 he).1
      rw [HE.foot_congr (hs j hj)]
      exact (HE.ren_foot (ρs_lt j (by omega))).symm
    refine ⟨fun j e he => ?_, fun j e he hw b hb => ?_, fun i j d e hij hi hd hj hl' b hx hy => ?_, Fr.refl _ _⟩
    · have hj := (List.getElem?_eq_some_iff.1 he).1
      have := (HE.ren_ok (σ := spσ σ H.length 0) (ρ := ρ) (ρ'' := ρs) (fun _ => rfl) (ρs_lt j (by omega)) (w := w) (e := e)).1 (hok0.ent _ _ (big j e he))
      exact HE.ok_same this (hb1 e (List.mem_of_getElem? he)) hj hs
    · refine .inr ⟨j, e, he, hw, ?_⟩
      have hj := (List.getElem?_eq_some_iff.1 he).1
      rwa [← HE.foot_congr (hs j hj)]
    · have hi' := (List.getElem?_eq_some_iff.1 hi).1
      have hj' := (List.getElem?_eq_some_iff.1 hj).1
      exact hok0.dis _ _ _ _ (fun h => hij (inj i j (by omega) (by omega) h)) (big i d hi) (HE.ren_wr.2 hd) (big j e hj) (HE.ren_live.2 hl') b ((ft i d b hi).1 hx) ((ft j e b hj).1 hy)
  have hargs : SV.denL ρ args = SV.denL ρs args0 := by rw [ha]; exact (denL_all (fun _ => rfl) args0).symm
  rw [hargs]
  refine (hS.out ρs w small).mono fun e w' ⟨s, H1, ρ1, hR, hkept, he, hr1, hsame, hle⟩ => ?_
  let σ1 := spσ σ H.length (H1.length - σ.length)
  let ρ' : Loc := fun k => if k < H.length then ρ k else ρ1 (σ.length + (k - H.length))
  have hρ' : Same H.length ρ ρ' := fun k hk => if_pos hk
  have lenM : (mrgH H σ (H1.map (HE.ren σ1))).length = H.length + (H1.length - σ.length) := by rw [mrgH_len]; simp
  have σlt : ∀ k ∈ σ, k < H.length := fun k hk => by
    obtain ⟨j, hj, rfl⟩ := List.getElem_of_mem hk
    have h1 := hH j (by omega)
    simp only [List.getD, List.getElem?_eq_getElem hj, Option.getD_some, List.getElem?_eq_getElem (show j < H0.length by omega), Option.map_some] at h1
    exact (List.getElem?_eq_some_iff.1 h1).1
  have main : ∀ ρ'', Same (mrgH H σ (H1.map (HE.ren σ1))).length ρ' ρ'' → HOk w0 U ρ'' (mrgH H σ (H1.map (HE.ren σ1))) w' ∧ e = .returned ((SV.ren σ1 s).den ρ'') := fun ρ'' hs => by
    have hsH : Same H.length ρ ρ'' := hρ'.trans (hs.mono (by omega)) (Nat.le_refl _)
    have hok := hr ρ'' hsH
    let ρt : Loc := fun j => ρ'' (renI σ1 j)
    have ρt1 : Same H1.length ρ1 ρt := fun j hj => by
      rcases Nat.lt_or_ge j σ.length with h1 | h1
      · show ρ'' (renI σ1 j) = ρ1 j
        rw [spσ_lt h1, hsame j (by omega), ρs_lt j h1]
        exact hsH _ (σlt _ (by rw [List.getD, List.getElem?_eq_getElem h1, Option.getD_some]; exact List.getElem_mem h1))
      · show ρ'' (renI σ1 j) = ρ1 j
        obtain ⟨t, rfl⟩ : ∃ t, j = σ.length + t := ⟨j - σ.length, by omega⟩
        rw [spσ_ge (by omega), hs _ (by rw [lenM]; omega)]
        simp only [ρ']
        rw [if_neg (by omega)]
        congr 1; omega
    have hok1 := hr1 ρt ρt1
    have e1 := he ρt ρt1
    rw [den_all (σ := σ1) (ρ := ρ'') (fun _ => rfl)] at e1
    refine ⟨?_, e1⟩
    -- what is what
    have cls : ∀ (k : Nat) (d : HE), (mrgH H σ (H1.map (HE.ren σ1)))[k]? = some d → (k < H.length ∧ k ∉ σ ∧ H[k]? = some d) ∨ ∃ (j : Nat) (d1 : HE), H1[j]? = some d1 ∧ d = d1.ren σ1 ∧ ρt j = ρ'' k ∧ k = renI σ1 j := fun k d hk => by
      rcases mrgH_get σ H _ hn σlt (by simp; omega) k d hk with h1 | ⟨j, h1, h2⟩
      · exact .inl h1
      · rw [List.getElem?_map] at h1
        obtain ⟨d1, h3, rfl⟩ := Option.map_eq_some_iff.1 h1
        have hj1 := (List.getElem?_eq_some_iff.1 h3).1
        have ek : k = renI σ1 j := by
          rcases h2 with ⟨h4, h5⟩ | ⟨h4, h5⟩
          · rw [spσ_lt h4, List.getD, h5]; rfl
          · obtain ⟨t, rfl⟩ : ∃ t, j = σ.length + t := ⟨j - σ.length, by omega⟩
            rw [spσ_ge (by omega), h5]
            omega
        exact .inr ⟨j, d1, h3, rfl, by rw [ek], ek⟩
    have fU : ∀ b, SpecU ρs H0 b → ∃ (j : Nat) (d : HE), j < σ.length ∧ H[σ.getD j 0]? = some d ∧ d.wr ∧ d.foot ρ'' (σ.getD j 0) b := fun b ⟨j, d, h1, h2, h3⟩ => by
      have hj := (List.getElem?_eq_some_iff.1 h1).1
      refine ⟨j, _, by omega, big j d h1, HE.ren_wr.2 h2, ?_⟩
      rw [HE.foot_congr (hsH _ (σlt _ (by rw [List.getD, List.getElem?_eq_getElem (show j < σ.length by omega), Option.getD_some]; exact List.getElem_mem _)))]
      exact (HE.ren_foot (ρs_lt j (by omega))).2 h3
    have out : ∀ (k : Nat) (d : HE) (b : Nat), k ∉ σ → H[k]? = some d → d.live → d.foot ρ'' k b → ¬ SpecU ρs H0 b := fun k d b hk hd hdl hf hU => by
      obtain ⟨j, d', hj, h1, h2, h3⟩ := fU b hU
      refine hok.dis _ _ _ _ (fun h => hk ?_) h1 h2 hd hdl b h3 hf
      rw [← h, List.getD, List.getElem?_eq_getElem hj, Option.getD_some]
      exact List.getElem_mem hj
    have apart : ∀ (k j : Nat) (d d1 : HE) (b : Nat), k ∉ σ → H[k]? = some d → d.live → d.foot ρ'' k b → H1[j]? = some d1 → d1.wr → d1.foot ρt j b → False := fun k j d d1 b hk hd hdl hf h1 hw hf1 => by
      rcases hok1.own j d1 h1 hw b hf1 with h | h
      · have := HE.ok_lt (hok.ent k d hd) hdl hf
        omega
      · exact out k d b hk hd hdl hf h
    refine ⟨fun k d hk => ?_, fun k d hk hw b hb => ?_, fun i k d e hik hi hd hk hl' b hx hy => ?_, ?_⟩
    · rcases cls k d hk with ⟨_, h2, h3⟩ | ⟨j, d1, h1, rfl, h2, _⟩
      · exact HE.ok_fr (hok.ent k d h3) hok1.fr (fun hdl b hf => out k d b h2 h3 hdl hf)
      · exact (HE.ren_ok (σ := σ1) (ρ := ρ'') (ρ'' := ρt) (fun _ => rfl) h2).2 (hok1.ent j d1 h1)
    · rcases cls k d hk with ⟨_, h2, h3⟩ | ⟨j, d1, h1, rfl, h2, _⟩
      · exact hok.own k d h3 hw b hb
      · rcases hok1.own j d1 h1 (HE.ren_wr.1 hw) b ((HE.ren_foot h2).1 hb) with h | h
        · exact .inl (Nat.le_trans hok.fr.size h)
        · obtain ⟨j', d', _, h3, h4, h5⟩ := fU b h
          exact hok.own _ _ h3 h4 b h5
    · rcases cls i d hi with ⟨_, h2, h3⟩ | ⟨j, d1, h1, rfl, h2, hj⟩ <;> rcases cls k e hk with ⟨_, h2', h3'⟩ | ⟨j', e1, h1', rfl, h2', hj'⟩
      · exact hok.dis i k d e hik h3 hd h3' hl' b hx hy
      · have hy' := (HE.ren_foot h2').1 hy
        by_cases hw : e1.wr
        · exact apart i j' d e1 b h2 h3 (HE.wr_live hd) hx h1' hw hy'
        · have h4 := keptR_row hkept h1' hw (HE.ren_live.1 hl')
          have hj0 := (List.getElem?_eq_some_iff.1 h4).1
          have h5 := big j' e1 h4
          have ek : σ.getD j' 0 = k := by rw [hj']; exact (spσ_lt (by omega)).symm
          rw [ek] at h5
          refine hok.dis i k d _ hik h3 hd h5 (HE.ren_live.2 (HE.ren_live.1 hl')) b hx ?_
          exact (HE.ren_foot h2').2 hy'
      · exact apart k j e d1 b h2' h3' hl' hy h1 (HE.ren_wr.1 hd) ((HE.ren_foot h2).1 hx)
      · refine hok1.dis j j' d1 e1 (fun hjj => hik ?_) h1 (HE.ren_wr.1 hd) h1' (HE.ren_live.1 hl') b ((HE.ren_foot h2).1 hx) ((HE.ren_foot h2').1 hy)
        subst hjj
        rw [hj, hj']
    · exact ⟨hok1.fr.os.trans hok.fr.os, hok1.fr.tape.trans hok.fr.tape, hok1.fr.output.trans hok.fr.output, Nat.le_trans hok.fr.size hok1.fr.size, fun b hb hnU => (hok1.fr.block b (Nat.lt_of_lt_of_le hb hok.fr.size) (fun hU => by
        obtain ⟨j', d', _, h3, h4, h5⟩ := fU b hU
        rcases hok.own _ _ h3 h4 b h5 with h | h
        · omega
        · exact hnU h)).trans (hok.fr.block b hb hnU)⟩
  refine ⟨s, H1, ρ', hR, hle, fun ρ'' hs => (main ρ'' hs).2, fun ρ'' hs => (main ρ'' hs).1, hρ', by rw [lenM]; omega, ⟨_, hr1.at.fr, fun b ⟨j, d, h1, h2, h3⟩ => ?_⟩, fun d hd hw b hb => ?_⟩
  rotate_left
  · subst hd
    have e1 : ρ1 H0.length = ρ' H.length := by simp only [ρ', if_neg (Nat.lt_irrefl _), Nat.sub_self, Nat.add_zero, hl]
    have hb1 := (HE.ren_foot e1).1 hb
    have hlast : (H0 ++ [d])[H0.length]? = some d := by simp
    rcases hr1.at.own _ d hlast hw b hb1 with h | ⟨i, e, h1, h2, h3⟩
    · exact h
    · have hi := (List.getElem?_eq_some_iff.1 h1).1
      exact absurd hb1 (hr1.at.dis i H0.length e d (by omega) (by rw [List.getElem?_append_left hi]; exact h1) h2 hlast (HE.wr_live hw) b ((HE.foot_congr (hsame i hi) e).2 h3))
  have hj := (List.getElem?_eq_some_iff.1 h1).1
  exact ⟨_, _, big j d h1, HE.ren_live.2 (HE.wr_live h2), (HE.ren_foot (ρs_lt j (by omega))).2 h3⟩
theorem call_spec {P : Program} {w0 : World} {U : Nat → Prop} {f : FuncId} {args args0 : List SV} {H H0 : List HE} {K : SV → List HE → Prop} {R : SV → List HE → Prop} (hS : Spec P f args0 H0 R) (σ : List Nat)
    (hl : σ.length = H0.length) (hn : σ.Nodup) (hb0 : (H0.all (HE.bdd H0.length) && SV.bddL H0.length args0) = true) (hH : ∀ j : Nat, j < H0.length → H[σ.getD j 0]? = (H0[j]?).map (HE.ren (spσ σ H.length 0))) (ha : args = SV.renL (spσ σ H.length 0) args0)
    (hK : ∀ s H1, R s H1 → H0.length ≤ H1.length → K (SV.ren (spσ σ H.length (H1.length - σ.length)) s) (mrgH H σ (H1.map (HE.ren (spσ σ H.length (H1.length - σ.length)))))) : CallN P w0 U f args H K :=
  ⟨fun ρ w hr => (spec_frame hS σ hl hn hb0 hH ha hr).mono fun e w' ⟨s, H1, ρ', hR, hle, h1, h2, h3, h4, _⟩ => ⟨_, _, ρ', h1, h2, h3, h4, hK s H1 hR hle⟩⟩
end Go.Proofs.YtghfigeepnbjaaaGreat
namespace Go.Proofs.YtghfigeepnbjaaaGreat

/-- The end of such a walk: what is handed back, and what is known, forgotten in part. -/
structure SpecEnd (R : SV → List HE → Prop) (H0 : List HE) (s : SV) (H' : List HE) : Prop where
  out : ∃ s0 H1, R s0 H1 ∧ s0 ≠ .junk ∧ keptR H0 H1 ∧ Less H0.length [s] H' [s0] H1
theorem spec_x {f : FuncId} {args : List SV} {H0 : List HE} {R : SV → List HE → Prop} {fn : Func} {c : Code} (hf : Tryz.prog.funcs[f]? = some fn) (hb : fn.body = some c) (m : Nat) (hm : m = H0.length) (hbd : SV.bddL m args = true)
    (h : ∀ (w0 : World) (U : Nat → Prop), xCode Tryz.prog w0 U tab m c (args ++ List.replicate (fn.ntmps - args.length) (.v undef)) H0
      (fun tm H' => xRet tab fn.results tm H' fun s => SpecEnd R H0 s H') (fun _ _ _ => False) (fun tm H' => xRet tab fn.results tm H' fun s => SpecEnd R H0 s H')) : Spec Tryz.prog f args H0 R :=
  ⟨fun ρ w hr => by
    subst hm
    refine (x_callsK tabOK H0.length hf hb args H0 (Nat.le_refl _) ρ hbd rfl hr (h w _)).mono ?_
    rintro e w' ⟨s, H', ρ', v, rfl, ⟨s0, H1, hR, hj, hk, hl⟩, h1, h2, h3, hv⟩
    have hrel : Rel w (SpecU ρ H0) ρ' [s] H' { tmps := #[v], defers := [] } w' := ⟨rfl, fun ρ'' hs => ⟨⟨rfl, fun i x hi _ => by
      cases i with
      | zero => simp at hi; subst hi; simp [hv ρ'' hs]
      | succ i => simp at hi⟩, h1 ρ'' hs⟩⟩
    obtain ⟨ρ1, hr1, hs1, hl1⟩ := hrel.less hl
    refine ⟨s0, H1, ρ1, hR, hk, fun ρ'' hs => ?_, hr1.h, h2.trans hs1 (Nat.le_refl _), hl1⟩
    have := (hr1.2 ρ'' hs).1.2 0 s0 rfl hj
    simp at this
    rw [this]⟩
/-- A contract, used where its function's text is not walked. -/
theorem Spec.mono {P : Program} {f : FuncId} {args : List SV} {H0 : List HE} {R R' : SV → List HE → Prop} (h : Spec P f args H0 R) (k : ∀ s H1, R s H1 → R' s H1) : Spec P f args H0 R' :=
  ⟨fun ρ w hr => (h.out ρ w hr).mono fun _ _ ⟨s, H1, ρ1, hR, h1⟩ => ⟨s, H1, ρ1, k s H1 hR, h1⟩⟩
/-- Where the blocks of a contract stand. -/
def namedAt (H : List HE) (τ : List (Option Nat)) : List Nat → List HE → Prop
  | [], [] => True
  | k :: σ, e :: r => H[k]? = some (e.ren τ) ∧ namedAt H τ σ r
  | _, _ => False
theorem namedAt_len {H : List HE} {τ : List (Option Nat)} : ∀ {σ : List Nat} {H0 : List HE}, namedAt H τ σ H0 → σ.length = H0.length
  | [], [], _ => rfl
  | _ :: _, _ :: _, h => congrArg (· + 1) (namedAt_len h.2)
  | [], _ :: _, h => h.elim
  | _ :: _, [], h => h.elim
theorem namedAt_get {H : List HE} {τ : List (Option Nat)} : ∀ {σ : List Nat} {H0 : List HE}, namedAt H τ σ H0 → ∀ j : Nat, j < H0.length → H[σ.getD j 0]? = (H0[j]?).map (HE.ren τ)
  | [], [], _, j, hj => absurd hj (Nat.not_lt_zero _)
  | k :: σ, e :: r, h, 0, _ => by simpa using h.1
  | k :: σ, e :: r, h, j + 1, hj => by
    have := namedAt_get h.2 j (by simpa using hj)
    simpa using this
  | [], _ :: _, h, _, _ => h.elim
  | _ :: _, [], h, _, _ => h.elim
/-- New names, written out. -/
def tailK (n : Nat) : Nat → Nat → (List (Option Nat) → Prop) → Prop
  | _, 0, K => K []
  | t, k + 1, K => natL lits (n + t) fun m => tailK n (t + 1) k fun r => K (some m :: r)
theorem tailK_spec {n : Nat} : ∀ (k t : Nat) (K : List (Option Nat) → Prop), tailK n t k K → K ((List.range' t k).map fun j => some (n + j))
  | 0, _, _, h => h
  | k + 1, t, K, h => tailK_spec k (t + 1) _ (natL_spec _ _ _ h)
def spK (n k : Nat) : List Nat → (List (Option Nat) → Prop) → Prop
  | [], K => tailK n 0 k K
  | a :: σ, K => spK n k σ fun r => K (some a :: r)
theorem spK_spec {n k : Nat} : ∀ (σ : List Nat) (K : List (Option Nat) → Prop), spK n k σ K → K (spσ σ n k)
  | [], K, h => by
    have := tailK_spec k 0 K h
    rwa [← List.range_eq_range'] at this
  | a :: σ, K, h => spK_spec σ _ h
def cellRK (σ : List (Option Nat)) (s : SV) (K : SV → Prop) : Prop := match s with
  | .v x => K (.v x)
  | .kb b => K (.kb b)
  | .p i o => natL lits (renI σ i) fun j => K (.p j o)
  | .s i o n c => natL lits (renI σ i) fun j => K (.s j o n c)
  | .rp i z r c => natL lits (renI σ i) fun j => K (.rp j z r c)
  | .rs i n c => natL lits (renI σ i) fun j => K (.rs j n c)
  | .os i n => natL lits (renI σ i) fun j => K (.os j n)
  | .ov i z l n => natL lits (renI σ i) fun j => K (.ov j z l n)
  | .m i => natL lits (renI σ i) fun j => K (.m j)
  | s => K (s.ren σ)
theorem cellRK_spec {σ : List (Option Nat)} {s : SV} {K : SV → Prop} (h : cellRK σ s K) : K (s.ren σ) := by
  cases s <;> first | exact natL_spec _ _ _ h | exact h
def cellsRK (σ : List (Option Nat)) : List SV → (List SV → Prop) → Prop
  | [], K => K []
  | x :: xs, K => cellRK σ x fun y => cellsRK σ xs fun ys => K (y :: ys)
theorem cellsRK_spec {σ : List (Option Nat)} : ∀ (l : List SV) (K : List SV → Prop), cellsRK σ l K → K (SV.renL σ l)
  | [], _, h => h
  | _ :: xs, _, h => cellsRK_spec xs _ (cellRK_spec h)
def oneRK (σ : List (Option Nat)) (s : SV) (K : SV → Prop) : Prop := match s with
  | .agg cs => cellsRK σ cs fun cs' => K (.agg cs')
  | s => cellRK σ s K
theorem oneRK_spec {σ : List (Option Nat)} {s : SV} {K : SV → Prop} (h : oneRK σ s K) : K (s.ren σ) := by
  cases s <;> first | exact cellsRK_spec _ _ h | exact cellRK_spec h
def onesRK (σ : List (Option Nat)) : List SV → (List SV → Prop) → Prop
  | [], K => K []
  | x :: xs, K => oneRK σ x fun y => onesRK σ xs fun ys => K (y :: ys)
theorem onesRK_spec {σ : List (Option Nat)} : ∀ (l : List SV) (K : List SV → Prop), onesRK σ l K → K (SV.renL σ l)
  | [], _, h => h
  | _ :: xs, _, h => onesRK_spec xs _ (oneRK_spec h)
def resRK (σ : List (Option Nat)) (s : SV) (K : SV → Prop) : Prop := match s with
  | .tup vs => onesRK σ vs fun vs' => K (.tup vs')
  | s => oneRK σ s K
theorem resRK_spec {σ : List (Option Nat)} {s : SV} {K : SV → Prop} (h : resRK σ s K) : K (s.ren σ) := by
  cases s <;> first | exact onesRK_spec _ _ h | exact oneRK_spec h
def entRK (σ : List (Option Nat)) (e : HE) (K : HE → Prop) : Prop := match e with
  | .blk t cs => cellsRK σ cs fun cs' => K (.blk t cs')
  | .iter j ents clock vis => natL lits (renI σ j) fun j' => K (.iter j' ents clock vis)
  | e => K e
theorem entRK_spec {σ : List (Option Nat)} {e : HE} {K : HE → Prop} (h : entRK σ e K) : K (e.ren σ) := by
  cases e <;> first | exact cellsRK_spec _ _ h | exact natL_spec _ _ _ h | exact h
def entsRK (σ : List (Option Nat)) : List HE → (List HE → Prop) → Prop
  | [], K => K []
  | x :: xs, K => entRK σ x fun y => entsRK σ xs fun ys => K (y :: ys)
theorem entsRK_spec {σ : List (Option Nat)} : ∀ (l : List HE) (K : List HE → Prop), entsRK σ l K → K (l.map (HE.ren σ))
  | [], _, h => h
  | _ :: xs, _, h => entsRK_spec xs _ (entRK_spec h)
theorem call_sp {P : Program} {w0 : World} {U : Nat → Prop} {f : FuncId} {args args0 : List SV} {H H0 : List HE} {K : SV → List HE → Prop} {R : SV → List HE → Prop} (hS : Spec P f args0 H0 R) (σ : List Nat)
    (hn : σ.Nodup) (hb0 : (H0.all (HE.bdd H0.length) && SV.bddL H0.length args0) = true) (hH : namedAt H (spσ σ H.length 0) σ H0) (ha : args = SV.renL (spσ σ H.length 0) args0)
    (hK : ∀ s H1, R s H1 → lenK H fun n => natL lits (H1.length - σ.length) fun k => spK n k σ fun σ1 => entsRK σ1 H1 fun H1' => forceH (mrgH H σ H1') fun H' => resRK σ1 s fun s' => K s' H') : CallN P w0 U f args H K :=
  call_spec hS σ (namedAt_len hH) hn hb0 (namedAt_get hH) ha fun s H1 hR _ =>
    resRK_spec (forceH_spec _ _ (entsRK_spec _ _ (spK_spec _ _ (natL_spec _ _ _ (lenK_spec (hK s H1 hR))))))
theorem set_self {H : List HE} {k : Nat} {x : HE} (h : H[k]? = some x) : H.set k x = H := by
  obtain ⟨hk, rfl⟩ := List.getElem?_eq_some_iff.1 h
  exact List.set_getElem_self hk
theorem mrgH_self {H : List HE} {τ : List (Option Nat)} : ∀ {σ : List Nat} {H0 : List HE}, namedAt H τ σ H0 → mrgH H σ (H0.map (HE.ren τ)) = H
  | [], [], _ => by simp [mrgH]
  | _ :: _, _ :: _, h => by
    simp only [List.map_cons, mrgH]
    rw [set_self h.1]
    exact mrgH_self h.2
  | [], _ :: _, h => h.elim
  | _ :: _, [], h => h.elim
/-- A contract that leaves all as it was known, in a region that draws its order. -/
theorem seg_sp {P : Program} {w0 : World} {U : Nat → Prop} {nb N : Nat} {f : FuncId} {args args0 : List SV} {H H0 : List HE} {K : SV → Option HE → Prop} {s0 : SV} (hS : Spec P f args0 H0 fun s H1 => s = s0 ∧ H1 = H0) (hcl : ∀ ρ, s0.den ρ = s0.den noLoc) (σ : List Nat)
    (hn : σ.Nodup) (hb0 : (H0.all (HE.bdd H0.length) && SV.bddL H0.length args0) = true) (hN : namedAt (H.take nb) (spσ σ (H.take nb).length 0) σ H0) (ha : args = SV.renL (spσ σ (H.take nb).length 0) args0) (hK : K s0 none) : CallS P w0 U nb f args H N K :=
  ⟨s0, none, hK, fun ρ w _ hb => (spec_frame hS σ (namedAt_len hN) hn hb0 (namedAt_get hN) ha hb).mono fun e w' ⟨s, H1, ρ', ⟨h5, h6⟩, _, h1, h2, h3, _, hT, _⟩ => by
    subst h5 h6
    have e0 : H1.length - σ.length = 0 := by rw [namedAt_len hN]; omega
    rw [e0, mrgH_self hN] at h1 h2
    refine ⟨.inr ⟨hT, fun ρ'' hs => h2 ρ'' fun i hi => (hs i hi).trans (h3 i hi).symm⟩, none, s.den noLoc, fun b hb => (by simp at hb), ?_, fun ρ'' _ _ => ⟨(hcl ρ'').symm, fun _ h => by cases h⟩⟩
    rw [h1 ρ' (Same.refl _ _), ← den_all (σ := spσ σ (H.take nb).length 0) (fun _ => rfl), hcl]⟩
/-- The rows of a list. -/
def rowsF {α : Type} (cell : α → List Value) (d : α) (xs : List α) : Nat → Nat → Value := fun r c => (cell (xs.getD r d)).getD c undef
end Go.Proofs.YtghfigeepnbjaaaGreat
