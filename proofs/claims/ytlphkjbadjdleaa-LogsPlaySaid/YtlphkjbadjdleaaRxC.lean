/-
  How a walk by the executor is begun, goes on behind a call, and ends. No condition.
-/
import Derived.Test.YtlphkjbadjdleaaRxTab
import Derived.Test.YtlphkjbadjdleaaRxJ
namespace Go.Proofs.Ytlphkjbadjdleaa

abbrev noU : Nat → Prop := fun _ => False
abbrev noLoc : Loc := fun _ => none
theorem fr_none {a w : World} (h : Fr noU a w) : a.grownBy w none := ⟨h.os, h.tape, h.output, h.size, fun i hi _ => h.block i hi (fun h => h)⟩
theorem rel0 (w : World) : HRel w noU noLoc [] w := fun _ _ => ⟨fun i e h => by simp at h, fun i _ h => by simp at h, fun i j _ _ _ h => by simp at h, Fr.refl _ _⟩
theorem HRel.at {w0 : World} {U : Nat → Prop} {ρ : Loc} {H : List HE} {w : World} (h : HRel w0 U ρ H w) : HOk w0 U ρ H w := h ρ (Same.refl _ _)
/-- The end of a function that leaves memory alone but for new blocks. -/
theorem ret_pure {w0 : World} {H : List HE} {s : SV} {V : Value} (h : ∀ ρ, s.den ρ = V) : ∀ ρ' w', HRel w0 noU ρ' H w' → (Ending.returned (s.den ρ') = .returned V ∧ w0.grownBy w' none) :=
  fun ρ' _ hr => ⟨by rw [h ρ'], fr_none hr.at.fr⟩
theorem Need.go {p q : Prop} (hp : p) (hq : q) : Need p q := ⟨hp, hq⟩
theorem Br.both {b : Bool} {t f : Prop} (h1 : b = true → t) (h2 : b = false → f) : Br b t f := ⟨h1, h2⟩
theorem Br.yes {b : Bool} {t f : Prop} (hb : b = true) (h : t) : Br b t f := ⟨fun _ => h, fun h' => by rw [hb] at h'; cases h'⟩
theorem Br.no {b : Bool} {t f : Prop} (hb : b = false) (h : f) : Br b t f := ⟨fun h' => (by rw [hb] at h'; cases h'), fun _ => h⟩
theorem Br.dec {p : Prop} [Decidable p] {t f : Prop} (h1 : p → t) (h2 : ¬ p → f) : Br (decide p) t f := ⟨fun h => h1 (of_decide_eq_true h), fun h => h2 (of_decide_eq_false h)⟩
theorem Br.eqI {a b : Int} {t f : Prop} (h1 : a = b → t) (h2 : ¬ a = b → f) : Br (a == b) t f := ⟨fun h => h1 (by simpa using h), fun h => h2 (by simpa using h)⟩
theorem Br.neI {a b : Int} {t f : Prop} (h1 : ¬ a = b → t) (h2 : a = b → f) : Br (a != b) t f := ⟨fun h => h1 (by simpa using h), fun h => h2 (by simpa using h)⟩
theorem Br.eqS {a b : List UInt8} {t f : Prop} (h1 : a = b → t) (h2 : ¬ a = b → f) : Br (a == b) t f := ⟨fun h => h1 (by simpa using h), fun h => h2 (by simpa using h)⟩
theorem Br.neS {a b : List UInt8} {t f : Prop} (h1 : ¬ a = b → t) (h2 : a = b → f) : Br (a != b) t f := ⟨fun h => h1 (by simpa using h), fun h => h2 (by simpa using h)⟩
theorem Ar.i64 {n : Int} {K : SV → Prop} (h1 : -9223372036854775808 ≤ n) (h2 : n ≤ 9223372036854775807) (q : K (.v (.int .i64 n))) : Ar .i64 n K := .plain (IntWalk.i64_in _ ⟨h1, h2⟩) q

theorem getD_one {vs : List Value} {m sz : Nat} (hl : vs.length = m * sz) (h : vs.all Value.oneCell' = true) : ∀ r c, r < m → c < sz → (vs.getD (r * sz + c) undef).oneCell' = true := fun r c hr hc => by
  have h1 : r * sz + c < vs.length := by
    rw [hl]
    calc r * sz + c < r * sz + sz := by omega
      _ = (r + 1) * sz := by rw [Nat.add_mul, Nat.one_mul]
      _ ≤ m * sz := Nat.mul_le_mul_right _ hr
  rw [List.getD, List.getElem?_eq_getElem h1]
  exact List.all_eq_true.1 h _ (List.getElem_mem h1)
/-- One row behind others. -/
theorem rowsApp_one {k sz : Nat} {f f' g : Nat → Nat → Value} (h1 : ∀ r c, r < k → c < sz → f r c = f' r c) (h2 : ∀ c, c < sz → g 0 c = f' k c) : ∀ r c, r < k + 1 → c < sz → rowsApp k f g r c = f' r c := fun r c hr hc => by
  unfold rowsApp
  by_cases h : r < k
  · rw [if_pos h]; exact h1 r c h hc
  · rw [if_neg h, show r = k by omega, Nat.sub_self]; exact h2 c hc
section
variable {P : Program} {w0 : World} {U : Nat → Prop}
/-- A call of a function that leaves memory alone but for new blocks, and hands back a value. -/
theorem call_pure {f : FuncId} {args : List SV} {H : List HE} {K : SV → List HE → Prop} {A : Array Value} {V : Value} (hA : ∀ ρ, (SV.denL ρ args).toArray = A)
    (hc : ∀ w, Calls P f A w fun e w' => e = .returned V ∧ w.grownBy w' none) (hK : K (.v V) H) : CallN P w0 U f args H K :=
  ⟨fun ρ w hr => by
    rw [hA ρ]
    exact (hc w).mono fun _ _ ⟨he, hg⟩ => ⟨.v V, H, ρ, fun _ _ => he, hr.grown0 hg, Same.refl _ _, Nat.le_refl _, hK⟩⟩
/-- The same where what it asks of the memory is known. -/
theorem call_mem {f : FuncId} {args : List SV} {H : List HE} {K : SV → List HE → Prop} {V : Value}
    (hc : ∀ ρ w, HRel w0 U ρ H w → Calls P f (SV.denL ρ args).toArray w fun e w' => e = .returned V ∧ w.grownBy w' none) (hK : K (.v V) H) : CallN P w0 U f args H K :=
  ⟨fun ρ w hr => (hc ρ w hr).mono fun _ _ ⟨he, hg⟩ => ⟨.v V, H, ρ, fun _ _ => he, hr.grown0 hg, Same.refl _ _, Nat.le_refl _, hK⟩⟩
theorem quiet_pure {f : FuncId} {args : List SV} {H : List HE} {K : SV → Prop} {A : Array Value} {V : Value} (hA : ∀ ρ, (SV.denL ρ args).toArray = A)
    (hc : ∀ w, Calls P f A w fun e w' => e = .returned V ∧ w.grownBy w' none) (hK : K (.v V)) : CallQ P w0 U f args H K :=
  ⟨V, fun ρ w hr => by
    rw [hA ρ]
    exact (hc w).mono fun _ _ ⟨he, hg⟩ => ⟨he, hr.grown0 hg⟩, hK⟩
theorem quiet_mem {f : FuncId} {args : List SV} {H : List HE} {K : SV → Prop} {V : Value}
    (hc : ∀ ρ w, HRel w0 U ρ H w → Calls P f (SV.denL ρ args).toArray w fun e w' => e = .returned V ∧ w.grownBy w' none) (hK : K (.v V)) : CallQ P w0 U f args H K :=
  ⟨V, fun ρ w hr => (hc ρ w hr).mono fun _ _ ⟨he, hg⟩ => ⟨he, hr.grown0 hg⟩, hK⟩
/-- A call that writes one known block. -/
theorem call_write {f : FuncId} {args : List SV} {H : List HE} {K : SV → List HE → Prop} {V : Value} (i : Nat) {t : TypeId} {cs : List SV} (cs' : List SV) (hi : getH H i = .blk t cs) (hbd : SV.bddL H.length cs' = true)
    (hc : ∀ ρ w b, HRel w0 U ρ H w → ρ i = some ⟨b, 0, none⟩ → Blk w b t (SV.denL ρ cs).toArray → Calls P f (SV.denL ρ args).toArray w fun e w' => e = .returned V ∧ Blk w' b t (SV.denL ρ cs').toArray ∧ w.grownBy w' (some b))
    (hK : setHK H i (.blk t cs') fun H' => K (.v V) H') : CallN P w0 U f args H K :=
  ⟨fun ρ w hr => by
    obtain ⟨b, hb, hblk⟩ := hr.at.blk (getH_blk hi)
    have hilt : i < H.length := (List.getElem?_eq_some_iff.1 (getH_blk hi)).1
    refine (hc ρ w b hr hb hblk).mono fun _ _ ⟨he, hbl, hg⟩ => ⟨.v V, _, ρ, fun _ _ => he, fun ρ'' hs => ?_, Same.refl _ _, by simp, setHK_spec _ _ _ _ hK⟩
    have hs : Same H.length ρ ρ'' := by simpa using hs
    have hb' : ρ'' i = some ⟨b, 0, none⟩ := by rw [hs i hilt]; exact hb
    exact (hr ρ'' hs).write (getH_blk hi) trivial trivial trivial hb' ⟨b, hb', by rw [denL_same hs cs' hbd]; exact hbl⟩ hg⟩
end
/-- A slice that reads as n rows. -/
def RowOk (w : World) (a : Option Addr) (sz n : Nat) (f : Nat → Nat → Value) : Prop :=
  0 < n → ∃ b off, a = some ⟨b, off, none⟩ ∧ b < w.heap.size ∧ ∀ r c, r < n → c < sz → w.cell? ⟨b, off + r * sz + c, none⟩ = some (f r c)
def SliceV (w : World) (v : Value) (sz n : Nat) (f : Nat → Nat → Value) : Prop := ∃ a cap, v = .slice a n cap ∧ n ≤ cap ∧ cap ≤ maxLen ∧ RowOk w a sz n f
theorem RowOk.grown {w w' : World} {a : Option Addr} {sz n : Nat} {f : Nat → Nat → Value} (h : RowOk w a sz n f) (hg : w.grownBy w' none) : RowOk w' a sz n f := fun hn => by
  obtain ⟨b, off, rfl, hb, hc⟩ := h hn
  exact ⟨b, off, rfl, Nat.lt_of_lt_of_le hb hg.size, fun r c hr hc' => (World.cell?_of_block (w := w) (hg.block b hb (by simp))).trans (hc r c hr hc')⟩
theorem SliceV.grown {w w' : World} {v : Value} {sz n : Nat} {f : Nat → Nat → Value} (h : SliceV w v sz n f) (hg : w.grownBy w' none) : SliceV w' v sz n f := by
  obtain ⟨a, cap, rfl, h1, h2, h3⟩ := h
  exact ⟨a, cap, rfl, h1, h2, h3.grown hg⟩
theorem relR (w : World) (rows : List (Option Addr × Nat × Nat × (Nat → Nat → Value))) (h : ∀ (i : Nat) (a : Option Addr) (sz n : Nat) (f : Nat → Nat → Value), rows[i]? = some (a, sz, n, f) → RowOk w a sz n f) :
    HRel w noU (fun i => (rows[i]?).bind (·.1)) (rows.map fun q => .row q.2.1 q.2.2.1 q.2.2.2) w := by
  intro ρ' hs
  have nw : ∀ (i : Nat) (e : HE), (rows.map fun q => HE.row q.2.1 q.2.2.1 q.2.2.2)[i]? = some e → ¬ e.wr := fun i e hi => by
    rw [List.getElem?_map] at hi
    obtain ⟨q, _, rfl⟩ := Option.map_eq_some_iff.1 hi
    exact fun h => h
  refine ⟨fun i e hi => ?_, fun i e hi hw => absurd hw (nw i e hi), fun i j d e _ hi hd => absurd hd (nw i d hi), Fr.refl _ _⟩
  have hlt := (List.getElem?_eq_some_iff.1 hi).1
  have hi' := hi
  rw [List.getElem?_map] at hi
  obtain ⟨⟨a, sz, n, f⟩, hq, rfl⟩ := Option.map_eq_some_iff.1 hi
  intro hn
  obtain ⟨b, off, rfl, hb, hc⟩ := h i a sz n f hq hn
  exact ⟨b, off, by rw [hs i hlt]; simp [hq], hb, hc⟩
theorem relR1 {w : World} {a : Option Addr} {sz n : Nat} {f : Nat → Nat → Value} (h : RowOk w a sz n f) : HRel w noU (fun i => ([(a, sz, n, f)][i]?).bind (·.1)) [.row sz n f] w :=
  relR w [(a, sz, n, f)] fun i a' sz' n' f' hi => by
    cases i with
    | zero => cases hi; exact h
    | succ i => simp at hi
theorem relR2 {w : World} {a : Option Addr} {sz n : Nat} {f : Nat → Nat → Value} (h : RowOk w a sz n f) {a2 : Option Addr} {sz2 n2 : Nat} {f2 : Nat → Nat → Value} (h2 : RowOk w a2 sz2 n2 f2) : HRel w noU (fun i => ([(a, sz, n, f), (a2, sz2, n2, f2)][i]?).bind (·.1)) [.row sz n f, .row sz2 n2 f2] w :=
  relR w [(a, sz, n, f), (a2, sz2, n2, f2)] fun i a' sz' n' f' hi => by
    rcases i with _ | _ | i
    · cases hi; exact h
    · cases hi; exact h2
    · simp at hi
section
variable {P : Program} {w0 : World} {U : Nat → Prop}
theorem sl_rs {ρ : Loc} {H : List HE} {w : World} (h : HRel w0 U ρ H w) {i sz n n' cap : Nat} {f : Nat → Nat → Value} (hi : getH H i = .row sz n' f) (hn : n ≤ n') (h1 : n ≤ cap) (h2 : cap ≤ maxLen) : SliceV w ((SV.rs i n cap).den ρ) sz n f :=
  ⟨ρ i, cap, rfl, h1, h2, fun h0 => by
    obtain ⟨b, off, hb, hlt, hc⟩ := h.at.ent i _ (getH_row hi) (by omega)
    exact ⟨b, off, hb, hlt, fun r c hr hcz => hc r c (by omega) hcz⟩⟩
theorem sl_os {ρ : Loc} {H : List HE} {w : World} (h : HRel w0 U ρ H w) {i sz n : Nat} {ty : TypeId} {f : Nat → Nat → Value} (hi : getH H i = .own ty sz n f) : SliceV w ((SV.os i n).den ρ) sz n f := by
  refine ⟨_, _, rfl, ?_, ?_, fun hn => ?_⟩
  · obtain ⟨_, ⟨hv, h0⟩ | ⟨g, cap, cur, hv, _, _, h1, _⟩⟩ := h.at.ent i _ (getH_own hi)
    · omega
    · simp only [SV.den] at hv; injection hv with _ _ hv; rw [hv]; exact h1
  · obtain ⟨_, ⟨hv, h0⟩ | ⟨g, cap, cur, hv, _, _, _, h1, _⟩⟩ := h.at.ent i _ (getH_own hi)
    · simp only [SV.den] at hv; injection hv with _ _ hv; rw [hv]; exact Nat.zero_le _
    · simp only [SV.den] at hv; injection hv with _ _ hv; rw [hv]; exact h1
  · obtain ⟨a, ha, hb, hc⟩ := rowOf_spec (i := i) (by rw [hi]; rfl) h.at hn
    exact ⟨a.block, a.off, by simp [atB', ha], hb, hc⟩
/-- A slice that nothing else is. -/
theorem own_sl {w : World} {base : Nat} {ty : TypeId} {sz n : Nat} {v : Value} {f : Nat → Nat → Value} (h : w.ownsRow base ty sz v n (cellsF sz f n)) : SliceV w v sz n f := by
  obtain ⟨_, ⟨rfl, rfl⟩ | ⟨g, cap, cur, rfl, _, hk, h1, h2, hs, ht⟩⟩ := h
  · exact ⟨none, 0, rfl, Nat.le_refl _, Nat.zero_le _, fun h => absurd h (by omega)⟩
  · refine ⟨_, cap, rfl, h1, h2, fun hn => ⟨g, 0, rfl, Blk.lt (t := ty) (cs := cur) hk, fun r c hr hc => ?_⟩⟩
    rw [Nat.zero_add, Blk.cell (t := ty) (cs := cur) hk, ← Array.getElem?_toList]
    have hget := cellsF_get sz f n r c hr hc
    rw [← ht, List.getElem?_take] at hget
    split at hget
    · exact hget
    · cases hget
/-- A call that hands back a slice of its own, or something with one. -/
theorem call_own {f : FuncId} {args : List SV} {H : List HE} {K : SV → List HE → Prop} (ty : TypeId) (sz n : Nat) (g : Nat → Nat → Value) (sv : SV) (V : Value → Value) (hV : ∀ ρ' v, (SV.os H.length n).den ρ' = v → sv.den ρ' = V v)
    (hc : ∀ ρ w, HRel w0 U ρ H w → Calls P f (SV.denL ρ args).toArray w fun e w' => ∃ v, e = .returned (V v) ∧ w'.ownsRow w.heap.size ty sz v n (cellsF sz g n) ∧ w.grownBy w' none)
    (hK : appK H (.own ty sz n g) fun H' => K sv H') : CallN P w0 U f args H K :=
  ⟨fun ρ w hr => (hc ρ w hr).mono fun e w' ⟨v, he, hown, hg⟩ => by
    have hK := appK_spec _ _ _ hK
    obtain ⟨ad, had⟩ : ∃ ad : Option Addr, ∀ ρ'' : Loc, ρ'' H.length = ad → (SV.os H.length n).den ρ'' = v ∧ ∀ b, ad = some b → w.heap.size ≤ b.block := by
      obtain ⟨_, ⟨rfl, rfl⟩ | ⟨gb, cap, cur, rfl, hb, _⟩⟩ := hown
      · exact ⟨none, fun ρ'' hρ => ⟨by simp [SV.den, atB', capB, hρ], fun b hb => by cases hb⟩⟩
      · exact ⟨some ⟨gb, 0, some cap⟩, fun ρ'' hρ => ⟨by simp [SV.den, atB', capB, hρ], fun b hb' => by cases hb'; exact hb⟩⟩
    let ρ' : Loc := fun k => if k = H.length then ad else ρ k
    have hs : Same H.length ρ ρ' := fun i hi => by simp [ρ', Nat.ne_of_lt hi]
    have key : ∀ ρ'', Same (H ++ [HE.own ty sz n g]).length ρ' ρ'' → Same H.length ρ ρ'' ∧ ρ'' H.length = ad := fun ρ'' h'' =>
      ⟨hs.trans (h''.mono (n := H.length) (by simp)) (Nat.le_refl _), by rw [h'' H.length (by simp)]; simp [ρ']⟩
    refine ⟨sv, _, ρ', fun ρ'' h'' => by rw [he, hV ρ'' v (had ρ'' (key ρ'' h'').2).1], fun ρ'' h'' => ?_, hs, by simp, hK⟩
    obtain ⟨k1, k2⟩ := key ρ'' h''
    have hok := hr ρ'' k1
    obtain ⟨hv, hb⟩ := had ρ'' k2
    refine addH (keepH hok hg (fun _ _ _ _ _ _ => by simp) (fun k hk => by cases hk)) ?_ (fun b hb' => ?_) (fun i d hi hl b1 hb1 hf => ?_)
    · show w'.ownsRow 0 ty sz ((SV.os H.length n).den ρ'') n _
      rw [hv]
      obtain ⟨h0, h⟩ := hown
      refine ⟨h0, ?_⟩
      rcases h with h | ⟨gb, cap, cur, h1, _, h3⟩
      · exact .inl h
      · exact .inr ⟨gb, cap, cur, h1, Nat.zero_le _, h3⟩
    · rw [k2] at hb'
      exact .inl (Nat.le_trans hok.fr.size (hb b hb'))
    · rw [k2] at hb1
      exact absurd (live_lt hok hi hl hf) (Nat.not_lt.2 (hb b1 hb1))⟩
/-- The same; the name of what is new is counted. -/
theorem call_ownL {f : FuncId} {args : List SV} {H : List HE} {K : SV → List HE → Prop} (ty : TypeId) (sz n : Nat) (g : Nat → Nat → Value) (sv : Nat → SV) (V : Value → Value) (hV : ∀ N ρ' v, (SV.os N n).den ρ' = v → (sv N).den ρ' = V v)
    (hc : ∀ ρ w, HRel w0 U ρ H w → Calls P f (SV.denL ρ args).toArray w fun e w' => ∃ v, e = .returned (V v) ∧ w'.ownsRow w.heap.size ty sz v n (cellsF sz g n) ∧ w.grownBy w' none)
    (hK : lenK H fun N => appK H (.own ty sz n g) fun H' => K (sv N) H') : CallN P w0 U f args H K :=
  call_own ty sz n g (sv H.length) V (hV H.length) hc (lenK_spec hK)
/-- A call that writes one cell of a row of one's own. -/
theorem call_cell {f : FuncId} {args : List SV} {H : List HE} {K : SV → List HE → Prop} {V : Value} (i r c : Nat) {ty : TypeId} {sz n : Nat} {g : Nat → Nat → Value} (x : Value) (hi : getH H i = .own ty sz n g) (hr : r < n) (hcz : c < sz)
    (hc : ∀ ρ w b cur, HRel w0 U ρ H w → atR ρ i (r * sz + c) = some ⟨b, r * sz + c, none⟩ → Blk w b ty cur → cur[r * sz + c]? = some (g r c) → Calls P f (SV.denL ρ args).toArray w fun e w' => e = .returned V ∧ Blk w' b ty (cur.setIfInBounds (r * sz + c) x) ∧ w.grownBy w' (some b))
    (hK : setHK H i (.own ty sz n (updR g r c [x])) fun H' => K (.v V) H') : CallN P w0 U f args H K :=
  ⟨fun ρ w hrel => by
    have hi' := getH_own hi
    have hilt : i < H.length := (List.getElem?_eq_some_iff.1 hi').1
    obtain ⟨_, ⟨_, h0⟩ | ⟨b, cap, cur, hv, _, hk, h1, h2, h3, h4⟩⟩ := hrel.at.ent i _ hi'
    · omega
    · have hv0 := hv
      simp only [SV.den, atB'] at hv
      injection hv with hv _ _
      obtain ⟨⟨bb, oo, ss⟩, had, hae⟩ := Option.map_eq_some_iff.1 hv
      injection hae with hb1 hb2 _
      simp only at hb1 hb2
      subst hb1; subst hb2
      have hget := cellsF_get sz g n r c hr hcz
      rw [← h4, List.getElem?_take] at hget
      have hjn : r * sz + c < n * sz := by
        split at hget
        · assumption
        · cases hget
      rw [if_pos hjn, Array.getElem?_toList] at hget
      refine (hc ρ w bb cur hrel (by simp [atR, had]) hk hget).mono fun e w' ⟨he, hbl, hg⟩ => ⟨.v V, _, ρ, fun _ _ => he, fun ρ'' hs => ?_, Same.refl _ _, by simp, setHK_spec _ _ _ _ hK⟩
      have hs : Same H.length ρ ρ'' := by simpa using hs
      have hb' : ρ'' i = some ⟨bb, 0, ss⟩ := by rw [hs i hilt]; exact had
      refine (hrel ρ'' hs).write hi' trivial trivial trivial hb' (d' := .own ty sz n (updR g r c [x])) ?_ hg
      show World.ownsRow _ 0 ty sz ((SV.os i n).den ρ'') n _
      have : (SV.os i n).den ρ'' = .slice (some ⟨bb, 0, none⟩) n cap := by rw [← hv0]; simp [SV.den, atB', capB, had, hb']
      rw [this]
      have hlt : r * sz + c < cur.size := (Array.getElem?_eq_some_iff.1 hget).1
      refine own_stored h3 h1 h4 hr (by simp; omega) ?_ h2
      have e1 : (cur.toList.take (r * sz + c) ++ [x] ++ cur.toList.drop (r * sz + c + [x].length)).toArray = cur.setIfInBounds (r * sz + c) x := by
        apply Array.ext'
        rw [Array.toList_setIfInBounds, set_mid _ _ _ (by simpa using hlt)]
        simp
      rw [e1]
      exact hbl⟩
end
/-- What is handed back of a row of one's own. -/
theorem own_out {w0 : World} {ρ : Loc} {H : List HE} {w : World} (h : HRel w0 noU ρ H w) {i sz n : Nat} {ty : TypeId} {f : Nat → Nat → Value} (hi : getH H i = .own ty sz n f) : w.ownsRow w0.heap.size ty sz ((SV.os i n).den ρ) n (cellsF sz f n) := by
  obtain ⟨hl, hv⟩ := h.at.ent i _ (getH_own hi)
  refine ⟨hl, ?_⟩
  rcases hv with hv | ⟨g, cap, cur, hv, _, hk⟩
  · exact .inl hv
  · refine .inr ⟨g, cap, cur, hv, ?_, hk⟩
    have hv' := hv
    simp only [SV.den, atB'] at hv'
    injection hv' with hv' _ _
    obtain ⟨a, ha, hae⟩ := Option.map_eq_some_iff.1 hv'
    rcases h.at.own i _ (getH_own hi) trivial a.block ⟨a, ha, rfl⟩ with h1 | h1
    · injection hae with hae
      rw [← hae]; exact h1
    · exact h1.elim
theorem owns_congr {w : World} {base ty sz n n' : Nat} {v : Value} {f g : Nat → Nat → Value} (h : w.ownsRow base ty sz v n (cellsF sz f n)) (hn : n = n') (hf : ∀ r c, r < n → c < sz → f r c = g r c) : w.ownsRow base ty sz v n' (cellsF sz g n') := by
  subst hn
  rw [← cellsF_congr n hf]; exact h
/-- The slots at a loop's head: those from a place on are forgotten; some are told. -/
def headTm (a : Nat) (sl : List (Nat × SV)) : Nat → List SV → List SV
  | _, [] => []
  | k, x :: xs => (match lookS sl k with
    | some y => y
    | none => match Nat.ble a k with
      | true => .junk
      | false => x) :: headTm a sl (k + 1) xs
where
  lookS : List (Nat × SV) → Nat → Option SV
    | [], _ => none
    | (i, y) :: r, k => match Nat.beq i k with
      | true => some y
      | false => lookS r k
/-- A loop: slots from a on, and those that are told, are written in it. -/
theorem loop_at {m : Nat} {ih : CK} {tm : List SV} {H : List HE} {Ke : Nat → List SV → List HE → Prop} {Kr : List SV → List HE → Prop} (a : Nat) {α : Type} (inv : α → Prop) (μ : α → Nat) (sl : α → List (Nat × SV)) (sh : α → List HE) (x0 : α) (h0 : inv x0)
    (hl : Less m tm H (headTm a (sl x0) 0 tm) (sh x0))
    (hr : ∀ x, inv x → forceL (headTm a (sl x) 0 tm) fun tm1 => forceH (sh x) fun H1 => ih tm1 H1 (fun tm' H' => ∃ y, inv y ∧ μ y < μ x ∧ Less m tm' H' (headTm a (sl y) 0 tm) (sh y)) Ke Kr) :
    LoopN (∃ (α : Type) (inv : α → Prop) (μ : α → Nat) (st : α → List SV) (sh : α → List HE),
      (∃ x, inv x ∧ Less m tm H (st x) (sh x)) ∧
      ∀ x, inv x → forceL (st x) fun tm1 => forceH (sh x) fun H1 => ih tm1 H1 (fun tm' H' => ∃ y, inv y ∧ μ y < μ x ∧ Less m tm' H' (st y) (sh y)) Ke Kr) :=
  ⟨α, inv, μ, fun x => headTm a (sl x) 0 tm, sh, ⟨x0, h0, hl⟩, hr⟩
/-- What is told anew of a block at a loop's head: all of it, or some cells. -/
inductive HU where
  | ent (e : HE)
  | cells (l : List (Nat × SV))
noncomputable def lookC (sl : List (Nat × SV)) (k : Nat) (d : SV) : SV :=
  @List.rec (Nat × SV) (fun _ => SV) d (fun q _ ih => match Nat.beq q.1 k with
    | true => q.2
    | false => ih) sl
noncomputable def setCells (sl : List (Nat × SV)) (cs : List SV) : Nat → List SV :=
  @List.rec SV (fun _ => Nat → List SV) (fun _ => []) (fun x _ ih k => lookC sl k x :: ih (Nat.add k 1)) cs
noncomputable def HU.on (u : HU) (e : HE) : HE := match u with
  | .ent e' => e'
  | .cells l => match e with
    | .blk t cs => .blk t (setCells l cs 0)
    | e => e
noncomputable def lookU (hl : List (Nat × HU)) (k : Nat) (e : HE) : HE :=
  @List.rec (Nat × HU) (fun _ => HE) e (fun q _ ih => match Nat.beq q.1 k with
    | true => q.2.on e
    | false => ih) hl
noncomputable def headH (hl : List (Nat × HU)) (ex : List HE) (H : List HE) : Nat → List HE :=
  @List.rec HE (fun _ => Nat → List HE) (fun _ => ex) (fun e _ ih k => lookU hl k e :: ih (Nat.add k 1)) H
theorem forceL_eq : ∀ (l : List SV) (K : List SV → Prop), forceL l K = K l
  | [], _ => rfl
  | x :: xs, K => by
    unfold forceL
    cases x <;> simp only [nj] <;> exact forceL_eq xs _
theorem forceH_eq : ∀ (l : List HE) (K : List HE → Prop), forceH l K = K l
  | [], _ => rfl
  | x :: xs, K => by
    unfold forceH
    cases x <;> simp only [forceL_eq] <;> exact forceH_eq xs _
/-- The same as loop_at; of the memory what is told anew is told (hl), and what is new (ex). -/
theorem loop_up {m : Nat} {ih : CK} {tm : List SV} {H : List HE} {Ke : Nat → List SV → List HE → Prop} {Kr : List SV → List HE → Prop} (a : Nat) {α : Type} (inv : α → Prop) (μ : α → Nat) (sl : α → List (Nat × SV)) (hu : α → List (Nat × HU)) (ex : α → List HE) (x0 : α) (h0 : inv x0)
    (hl : forceL (headTm a (sl x0) 0 tm) fun tm1 => forceH (headH (hu x0) (ex x0) H 0) fun H1 => Less m tm H tm1 H1)
    (hr : ∀ x, inv x → forceL (headTm a (sl x) 0 tm) fun tm1 => forceH (headH (hu x) (ex x) H 0) fun H1 => ih tm1 H1 (fun tm' H' => ∃ y, inv y ∧ μ y < μ x ∧ forceL (headTm a (sl y) 0 tm) fun tm2 => forceH (headH (hu y) (ex y) H 0) fun H2 => Less m tm' H' tm2 H2) Ke Kr) :
    LoopN (∃ (α : Type) (inv : α → Prop) (μ : α → Nat) (st : α → List SV) (sh : α → List HE),
      (∃ x, inv x ∧ Less m tm H (st x) (sh x)) ∧
      ∀ x, inv x → forceL (st x) fun tm1 => forceH (sh x) fun H1 => ih tm1 H1 (fun tm' H' => ∃ y, inv y ∧ μ y < μ x ∧ Less m tm' H' (st y) (sh y)) Ke Kr) := by
  have e : (fun tm' H' y => forceL (headTm a (sl y) 0 tm) fun tm2 => forceH (headH (hu y) (ex y) H 0) fun H2 => Less m tm' H' tm2 H2) = fun tm' H' y => Less m tm' H' (headTm a (sl y) 0 tm) (headH (hu y) (ex y) H 0) := by
    funext tm' H' y
    rw [forceL_eq, forceH_eq]
  refine ⟨α, inv, μ, fun x => headTm a (sl x) 0 tm, fun x => headH (hu x) (ex x) H 0, ⟨x0, h0, by have := hl; rwa [forceL_eq, forceH_eq] at this⟩, fun x hx => ?_⟩
  have h := hr x hx
  have e' := fun tm' H' y => congrFun (congrFun (congrFun e tm') H') y
  simp only [e'] at h
  exact h
end Go.Proofs.Ytlphkjbadjdleaa
