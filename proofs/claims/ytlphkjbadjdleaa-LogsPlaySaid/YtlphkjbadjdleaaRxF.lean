/-
  What an operation of a segment leaves, whatever the order. No condition.
-/
import Derived.Test.YtlphkjbadjdleaaRxE
import Derived.Test.YtlphkjbadjdleaaRxB
namespace Go.Proofs.Ytlphkjbadjdleaa

/-- What an operation looks at is as the list says (it may say more). -/
def AtOk (ops : Array Oper) (o : Oper) (tm : List SV) (ρ : Loc) (a : Act) : Prop :=
  ∃ a' : Act, TmOk ρ tm a'.tmps ∧ (∀ x ∈ o.op.operands, a'.eval x = a.eval x) ∧ execOp a'.eval o = execOp a.eval o ∧ Region.wanted o (yielded ops a'.tmps) = Region.wanted o (yielded ops a.tmps)
/-- What stays as it is where only the blocks of a set are written. -/
theorem HE.ok_fr {ρ : Loc} {w w' : World} {i : Nat} {e : HE} {T : Nat → Prop} (h : e.ok ρ w i) (hg : Fr T w w') (hr : e.live → ∀ b, e.foot ρ i b → ¬ T b) : e.ok ρ w' i := by
  cases e with
  | none => trivial
  | blk ty cs =>
    obtain ⟨b, hb, hk⟩ := h
    exact ⟨b, hb, hk.fr hg (hr trivial _ ⟨_, hb, rfl⟩)⟩
  | row sz n f =>
    intro hn
    obtain ⟨b, off, hb, hlt, hc⟩ := h hn
    refine ⟨b, off, hb, Nat.lt_of_lt_of_le hlt hg.size, fun r c hr' hc' => ?_⟩
    rw [← hc r c hr' hc']
    exact World.cell?_of_block (w := w) (hg.block b hlt (hr hn _ ⟨_, hb, rfl⟩))
  | own ty sz n f =>
    obtain ⟨hl, h⟩ := h
    refine ⟨hl, ?_⟩
    rcases h with h | ⟨g, cap, cur, hv, hb, hk, hc⟩
    · exact .inl h
    · refine .inr ⟨g, cap, cur, hv, hb, ?_, hc⟩
      have hlt : g < w.heap.size := Blk.lt (t := ty) (cs := cur) hk
      rw [hg.block g hlt ?_]
      · exact hk
      · simp only [SV.den, atB'] at hv
        injection hv with hv _ _
        obtain ⟨a, ha, hae⟩ := Option.map_eq_some_iff.1 hv
        have := hr trivial a.block ⟨a, ha, rfl⟩
        injection hae with hae
        rwa [hae] at this
  | mp ag zk es st =>
    obtain ⟨r, h1, hk⟩ := h
    exact ⟨r, h1, hk.same (hg.block r hk.lt (hr trivial _ ⟨_, h1, rfl⟩))⟩
  | obj1 ty pre post ag zk es =>
    obtain ⟨sb, mb, h1, h0, h2, h3⟩ := h
    exact ⟨sb, mb, h1, h0, h2.fr hg (hr trivial _ ⟨_, h1, .inl rfl⟩), h3.same (hg.block mb h3.lt (hr trivial _ ⟨_, h1, .inr rfl⟩))⟩
  | res wr Z Q =>
    obtain ⟨h1, h2, h3⟩ := h
    exact ⟨h3 w w' (fun b hb => hg.block b (h2 b hb) (hr trivial b hb)) h1, fun b hb => Nat.lt_of_lt_of_le (h2 b hb) hg.size, h3⟩
/-- Two valuations that are the same below a number, and at what is known of H. -/
def SameL (nb : Nat) (H : List HE) (ρ ρ' : Loc) : Prop := Same nb ρ ρ' ∧ ∀ (i : Nat) (e : HE), H[i]? = some e → e ≠ .none → ρ' i = ρ i
section
variable (P : Program) (w0 : World) (U : Nat → Prop)
/-- What a call among others may do to what is known: it leaves it alone, or writes blocks that are known, which are then known as before. -/
def Kept (nb : Nat) (H : List HE) (ρ : Loc) (w w' : World) : Prop :=
  w.grownBy w' none ∨ ((∃ T : Nat → Prop, Fr T w w' ∧ ∀ b, T b → ∃ (i : Nat) (d : HE), (H.take nb)[i]? = some d ∧ d.live ∧ d.foot ρ i b) ∧ HRel w0 U ρ (H.take nb) w')
/-- A call among operations whose order is drawn: it leaves what was as it was; what it hands back may speak of one new block, N. -/
structure CallS (nb : Nat) (f : FuncId) (args : List SV) (H : List HE) (N : Nat) (K : SV → Option HE → Prop) : Prop where
  out : ∃ s e, K s e ∧ ∀ ρ w, HRel w0 U ρ H w → HRel w0 U ρ (H.take nb) w → Calls P f (SV.denL ρ args).toArray w fun en w' => Kept w0 U nb H ρ w w' ∧ ∃ (x : Option Addr) (v : Value), (∀ b, x = some b → w.heap.size ≤ b.block) ∧ en = .returned v ∧
    ∀ ρ' : Loc, SameL nb H ρ ρ' → (e.isSome = true → ρ' N = x) → v = s.den ρ' ∧ ∀ e0, e = some e0 → e0.okN w.heap.size ρ' w' N
/-- The law of an operation: G, the valuations that may be; H, what is known from ahead of the segment; N, the name of the block that it may make. -/
def SegLaw (nb : Nat) (ops : Array Oper) (o : Oper) (tm : List SV) (H : List HE) (N : Nat) (s : SV) (e : Option HE) : Prop :=
  ∀ (a : Act) (w : World) (G : Loc → Prop) (ρ : Loc), G ρ → (∀ ρ', G ρ' → AtOk ops o tm ρ' a) → (∀ ρ', G ρ' → SameL nb H ρ ρ') → (∀ ρ', G ρ' → HRel w0 U ρ' H w) → HRel w0 U ρ (H.take nb) w →
    ∀ (next : Act → World → Prop) (Q : Exit → Act → World → Prop),
      (∀ (x : Option Addr) (v : Value) (w' : World), (∀ b, x = some b → w.heap.size ≤ b.block) → Kept w0 U nb H ρ w w' → (∀ ρ', G ρ' → (e.isSome = true → ρ' N = x) → v = s.den ρ' ∧ ∀ e0, e = some e0 → e0.okN w.heap.size ρ' w' N) → next (a.put o.dst v) w') →
      (Region.wanted o (yielded ops a.tmps) = true ∧ o.wp P a w next Q) ∨ (Region.wanted o (yielded ops a.tmps) = false ∧ next (a.put o.dst undef) w)
/-- The same of the operation itself. -/
def OpLaw (nb : Nat) (ops : Array Oper) (o : Oper) (tm : List SV) (H : List HE) (N : Nat) (s : SV) (e : Option HE) : Prop :=
  ∀ (a : Act) (w : World) (G : Loc → Prop) (ρ : Loc), G ρ → (∀ ρ', G ρ' → AtOk ops o tm ρ' a) → (∀ ρ', G ρ' → SameL nb H ρ ρ') → (∀ ρ', G ρ' → HRel w0 U ρ' H w) → HRel w0 U ρ (H.take nb) w →
    ∀ (next : Act → World → Prop) (Q : Exit → Act → World → Prop),
      (∀ (x : Option Addr) (v : Value) (w' : World), (∀ b, x = some b → w.heap.size ≤ b.block) → Kept w0 U nb H ρ w w' → (∀ ρ', G ρ' → (e.isSome = true → ρ' N = x) → v = s.den ρ' ∧ ∀ e0, e = some e0 → e0.okN w.heap.size ρ' w' N) → next (a.put o.dst v) w') →
      o.wp P a w next Q
end
section
variable {P : Program} {w0 : World} {U : Nat → Prop} {T : Tab}
theorem HRel.at' {ρ : Loc} {H : List HE} {w : World} (h : HRel w0 U ρ H w) : HOk w0 U ρ H w := h ρ (Same.refl _ _)
theorem seg_pure {nb : Nat} {f : FuncId} {args : List SV} {H : List HE} {N : Nat} {K : SV → Option HE → Prop} {A : Array Value} {V : Value} (hA : ∀ ρ, (SV.denL ρ args).toArray = A)
    (hc : ∀ w, Calls P f A w fun e w' => e = .returned V ∧ w.grownBy w' none) (hK : K (.v V) none) : CallS P w0 U nb f args H N K :=
  ⟨.v V, none, hK, fun ρ w _ _ => by
    rw [hA ρ]
    exact (hc w).mono fun _ _ ⟨he, hg⟩ => ⟨.inl hg, none, V, fun b hb => (by simp at hb), he, fun _ _ _ => ⟨rfl, fun _ h => by cases h⟩⟩⟩
theorem seg_mem {nb : Nat} {f : FuncId} {args : List SV} {H : List HE} {N : Nat} {K : SV → Option HE → Prop} {V : Value}
    (hc : ∀ ρ w, HRel w0 U ρ H w → Calls P f (SV.denL ρ args).toArray w fun e w' => e = .returned V ∧ w.grownBy w' none) (hK : K (.v V) none) : CallS P w0 U nb f args H N K :=
  ⟨.v V, none, hK, fun ρ w hr _ => (hc ρ w hr).mono fun _ _ ⟨he, hg⟩ => ⟨.inl hg, none, V, fun b hb => (by simp at hb), he, fun _ _ _ => ⟨rfl, fun _ h => by cases h⟩⟩⟩
theorem seg_own {nb : Nat} {f : FuncId} {args : List SV} {H : List HE} {N : Nat} {K : SV → Option HE → Prop} (ty : TypeId) (sz n : Nat) (g : Nat → Nat → Value) (sv : SV) (V : Value → Value) (hV : ∀ ρ' v, (SV.os N n).den ρ' = v → sv.den ρ' = V v)
    (hc : ∀ ρ w, HRel w0 U ρ H w → Calls P f (SV.denL ρ args).toArray w fun e w' => ∃ v, e = .returned (V v) ∧ w'.ownsRow w.heap.size ty sz v n (cellsF sz g n) ∧ w.grownBy w' none)
    (hK : K sv (some (.own ty sz n g))) : CallS P w0 U nb f args H N K :=
  ⟨sv, _, hK, fun ρ w hr _ => (hc ρ w hr).mono fun e w' ⟨v, he, hown, hg⟩ => by
    obtain ⟨ad, had⟩ : ∃ ad : Option Addr, ∀ ρ'' : Loc, ρ'' N = ad → (SV.os N n).den ρ'' = v ∧ ∀ b, ad = some b → w.heap.size ≤ b.block := by
      obtain ⟨_, ⟨rfl, rfl⟩ | ⟨gb, cap, cur, rfl, hb, _⟩⟩ := hown
      · exact ⟨none, fun ρ'' hρ => ⟨by simp [SV.den, atB', capB, hρ], fun b hb => by cases hb⟩⟩
      · exact ⟨some ⟨gb, 0, some cap⟩, fun ρ'' hρ => ⟨by simp [SV.den, atB', capB, hρ], fun b hb' => by cases hb'; exact hb⟩⟩
    refine ⟨.inl hg, ad, V v, (had (fun _ => ad) rfl).2, he, fun ρ' _ hx => ?_⟩
    have h1 := (had ρ' (hx rfl)).1
    refine ⟨(hV ρ' v h1).symm, fun e0 h0 => ?_⟩
    cases h0
    refine okN_nam ?_ (hx rfl) (had (fun _ => ad) rfl).2
    show w'.ownsRow 0 ty sz ((SV.os N n).den ρ') n _
    rw [h1]
    obtain ⟨hl, h | ⟨gb, cap, cur, hv, _, h⟩⟩ := hown
    · exact ⟨hl, .inl h⟩
    · exact ⟨hl, .inr ⟨gb, cap, cur, hv, Nat.zero_le _, h⟩⟩⟩
theorem seg_blk {nb : Nat} {f : FuncId} {args : List SV} {H : List HE} {N : Nat} {K : SV → Option HE → Prop} (ty : TypeId) (cs : List SV) (hcs : ∀ ρ ρ', SameL nb H ρ ρ' → SV.denL ρ' cs = SV.denL ρ cs) (sv : SV) (V : Nat → Value) (hV : ∀ (ρ' : Loc) b, ρ' N = some ⟨b, 0, none⟩ → sv.den ρ' = V b)
    (hc : ∀ ρ w, HRel w0 U ρ H w → Calls P f (SV.denL ρ args).toArray w fun e w' => ∃ b, e = .returned (V b) ∧ Blk w' b ty (SV.denL ρ cs).toArray ∧ w.heap.size ≤ b ∧ w.grownBy w' none)
    (hK : K sv (some (.blk ty cs))) : CallS P w0 U nb f args H N K :=
  ⟨sv, _, hK, fun ρ w hr _ => (hc ρ w hr).mono fun e w' ⟨b, he, hb, hle, hg⟩ => ⟨.inl hg, some ⟨b, 0, none⟩, V b, fun a ha => (by cases ha; exact hle), he, fun ρ' hs hN =>
    ⟨(hV ρ' b (hN rfl)).symm, fun e0 h0 => by
      cases h0
      exact okN_nam ⟨b, hN rfl, by rw [hcs ρ ρ' hs]; exact hb⟩ (hN rfl) (fun a ha => by cases ha; exact hle)⟩⟩⟩
theorem op_pure (hT : TabOK P T) {nb : Nat} {ops : Array Oper} {tm : List SV} {H : List HE} {N : Nat} {o : Oper} {K : SV → Prop} (h : xPure T tm H o.op K) : ∃ s, K s ∧ OpLaw P w0 U nb ops o tm H N s none := by
  obtain ⟨dst, op, ty, pos, af, g⟩ := o
  obtain ⟨s, hK, hs⟩ := xPure_sound (w0 := w0) (U := U) hT h
  refine ⟨s, hK, fun a w G ρ hg hm hsame hr hb next Q hn => ?_⟩
  have key : ∀ ρ', G ρ' → (execOp a.eval ⟨dst, op, ty, pos, af, g⟩).run P w = .ok (.value (s.den ρ')) w := fun ρ' hg' => by
    obtain ⟨a', h1, _, h3, _⟩ := hm ρ' hg'
    rw [← h3]
    exact hs ρ' a' w dst ty pos af g h1 (hr ρ' hg').at'
  unfold Oper.wp
  rw [key ρ hg]
  refine hn none (s.den ρ) w (fun b hb => by simp at hb) (.inl (only_refl _ _)) fun ρ' hg' _ => ⟨?_, fun _ h => by cases h⟩
  have e1 := key ρ hg
  rw [key ρ' hg'] at e1
  injection e1 with e1
  injection e1 with e1
  exact e1.symm
theorem op_mk (hT : TabOK P T) {nb : Nat} {ops : Array Oper} {tm : List SV} {H : List HE} {N : Nat} {o : Oper} {K : SV → HE → Prop} (h : xMk T tm H N o.op K) : ∃ s e, K s e ∧ OpLaw P w0 U nb ops o tm H N s (some e) := by
  obtain ⟨dst, op, ty, pos, af, g⟩ := o
  obtain ⟨s, e, hK, hs⟩ := mk_sound (w0 := w0) (U := U) hT h dst ty pos af g
  refine ⟨s, e, hK, fun a w G ρ hg hm hsame hr hb next Q hn => ?_⟩
  obtain ⟨x, v, w', hx, hgr, hrun, hv⟩ := hs a w G ρ hg (fun ρ' hg' x hx hj => by
    obtain ⟨a', h1, h2, _⟩ := hm ρ' hg'
    rw [← h2 x hx]
    exact opd_eval h1 x hj) (hr ρ hg).at'
  unfold Oper.wp
  rw [hrun]
  exact hn x v w' hx (.inl hgr) fun ρ' hg' hN => ⟨(hv ρ' hg' (hN rfl)).1, fun e0 h0 => by cases h0; exact (hv ρ' hg' (hN rfl)).2⟩
theorem op_call (hT : TabOK P T) {nb : Nat} {ops : Array Oper} {tm : List SV} {H : List HE} {N : Nat} {o : Oper} {f : Operand} {args : List Operand} (hc : callOf o.op = some (f, args)) {K : SV → Option HE → Prop} (h : callX T tm f args fun g ss => CallS P w0 U nb g ss H N K) :
    ∃ s e, K s e ∧ OpLaw P w0 U nb ops o tm H N s e := by
  obtain ⟨dst, op, ty, pos, af, g⟩ := o
  obtain ⟨c, hop, hcf, hca⟩ := callOf_spec hc
  simp only at hop
  subst hop
  obtain ⟨g', all, ⟨⟨s, e, hK, hs⟩⟩, hrun⟩ := callX_spec hT h
  refine ⟨s, e, hK, fun a w G ρ hg hm hsame hr hb next Q hn => ?_⟩
  obtain ⟨a', h1, _, h3, _⟩ := hm ρ hg
  unfold Oper.wp
  rw [← h3, hrun ρ a' w c dst ty pos af g hcf hca h1]
  refine (hs ρ w (hr ρ hg) hb).mono fun en w' ⟨hgr, x, v, hx, he, hv⟩ => ?_
  subst he
  exact hn x v w' hx hgr fun ρ' hg' hN => hv ρ' (hsame ρ' hg') hN
end
end Go.Proofs.Ytlphkjbadjdleaa
