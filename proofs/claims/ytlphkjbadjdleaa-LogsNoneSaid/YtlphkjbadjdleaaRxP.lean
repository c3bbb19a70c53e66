/-
  How a contract over a little memory is proved by a walk. No condition.
-/
import Derived.Test.YtlphkjbadjdleaaRxO
namespace Go.Proofs.Ytlphkjbadjdleaa

/-- The end of such a walk: what is handed back, and what is known, forgotten in part. -/
structure SpecEnd (R : SV → List HE → Prop) (H0 : List HE) (s : SV) (H' : List HE) : Prop where
  out : ∃ s0 H1, R s0 H1 ∧ s0 ≠ .junk ∧ keptR H0 H1 ∧ Less H0.length [s] H' [s0] H1
theorem spec_x {f : FuncId} {args : List SV} {H0 : List HE} {R : SV → List HE → Prop} {fn : Func} {c : Code} (hf : Try.prog.funcs[f]? = some fn) (hb : fn.body = some c) (m : Nat) (hm : m = H0.length) (hbd : SV.bddL m args = true)
    (h : ∀ (w0 : World) (U : Nat → Prop), xCode Try.prog w0 U tab m c (args ++ List.replicate (fn.ntmps - args.length) (.v undef)) H0
      (fun tm H' => xRet tab fn.results tm H' fun s => SpecEnd R H0 s H') (fun _ _ _ => False) (fun tm H' => xRet tab fn.results tm H' fun s => SpecEnd R H0 s H')) : Spec Try.prog f args H0 R :=
  ⟨fun ρ w hr => by
    subst hm
    refine (x_callsK tabOK H0.length hf hb args H0 (Nat.le_refl _) ρ hbd rfl hr (h w _)).mono ?_
    rintro e w' ⟨s, H', ρ', v, rfl, ⟨s0, H1, hR, hj, hk, hl⟩, h1, h2, h3, hv⟩
    have hrel : Rel w (SpecU ρ H0) ρ' [s] H' { tmps := #[v], defers := [] } w' := ⟨rfl, fun ρ'' hs => ⟨⟨rfl, fun i x hi _ => by
      cases i with
      | zero => simp at hi; subst hi; simp [hv ρ'' hs]
      | succ i => simp at hi⟩, h1 ρ'' hs⟩⟩
    obtain ⟨ρ1, hr1, hs1, hl1⟩ := hrel.less hl
    refine ⟨s0, H1, ρ1, hR, hk, fun ρ'' hs => ?_, hr1.h, h2.trans hs1 (Nat.le_refl _), hl1⟩
    have := (hr1.2 ρ'' hs).1.2 0 s0 rfl hj
    simp at this
    rw [this]⟩
/-- A contract, used where its function's text is not walked. -/
theorem Spec.mono {P : Program} {f : FuncId} {args : List SV} {H0 : List HE} {R R' : SV → List HE → Prop} (h : Spec P f args H0 R) (k : ∀ s H1, R s H1 → R' s H1) : Spec P f args H0 R' :=
  ⟨fun ρ w hr => (h.out ρ w hr).mono fun _ _ ⟨s, H1, ρ1, hR, h1⟩ => ⟨s, H1, ρ1, k s H1 hR, h1⟩⟩
/-- Where the blocks of a contract stand. -/
def namedAt (H : List HE) (τ : List (Option Nat)) : List Nat → List HE → Prop
  | [], [] => True
  | k :: σ, e :: r => H[k]? = some (e.ren τ) ∧ namedAt H τ σ r
  | _, _ => False
theorem namedAt_len {H : List HE} {τ : List (Option Nat)} : ∀ {σ : List Nat} {H0 : List HE}, namedAt H τ σ H0 → σ.length = H0.length
  | [], [], _ => rfl
  | _ :: _, _ :: _, h => congrArg (· + 1) (namedAt_len h.2)
  | [], _ :: _, h => h.elim
  | _ :: _, [], h => h.elim
theorem namedAt_get {H : List HE} {τ : List (Option Nat)} : ∀ {σ : List Nat} {H0 : List HE}, namedAt H τ σ H0 → ∀ j : Nat, j < H0.length → H[σ.getD j 0]? = (H0[j]?).map (HE.ren τ)
  | [], [], _, j, hj => absurd hj (Nat.not_lt_zero _)
  | k :: σ, e :: r, h, 0, _ => by simpa using h.1
  | k :: σ, e :: r, h, j + 1, hj => by
    have := namedAt_get h.2 j (by simpa using hj)
    simpa using this
  | [], _ :: _, h, _, _ => h.elim
  | _ :: _, [], h, _, _ => h.elim
/-- New names, written out. -/
def tailK (n : Nat) : Nat → Nat → (List (Option Nat) → Prop) → Prop
  | _, 0, K => K []
  | t, k + 1, K => natL lits (n + t) fun m => tailK n (t + 1) k fun r => K (some m :: r)
theorem tailK_spec {n : Nat} : ∀ (k t : Nat) (K : List (Option Nat) → Prop), tailK n t k K → K ((List.range' t k).map fun j => some (n + j))
  | 0, _, _, h => h
  | k + 1, t, K, h => tailK_spec k (t + 1) _ (natL_spec _ _ _ h)
def spK (n k : Nat) : List Nat → (List (Option Nat) → Prop) → Prop
  | [], K => tailK n 0 k K
  | a :: σ, K => spK n k σ fun r => K (some a :: r)
theorem spK_spec {n k : Nat} : ∀ (σ : List Nat) (K : List (Option Nat) → Prop), spK n k σ K → K (spσ σ n k)
  | [], K, h => by
    have := tailK_spec k 0 K h
    rwa [← List.range_eq_range'] at this
  | a :: σ, K, h => spK_spec σ _ h
def cellRK (σ : List (Option Nat)) (s : SV) (K : SV → Prop) : Prop := match s with
  | .v x => K (.v x)
  | .kb b => K (.kb b)
  | .p i o => natL lits (renI σ i) fun j => K (.p j o)
  | .s i o n c => natL lits (renI σ i) fun j => K (.s j o n c)
  | .rp i z r c => natL lits (renI σ i) fun j => K (.rp j z r c)
  | .rs i n c => natL lits (renI σ i) fun j => K (.rs j n c)
  | .os i n => natL lits (renI σ i) fun j => K (.os j n)
  | .ov i z l n => natL lits (renI σ i) fun j => K (.ov j z l n)
  | .m i => natL lits (renI σ i) fun j => K (.m j)
  | s => K (s.ren σ)
theorem cellRK_spec {σ : List (Option Nat)} {s : SV} {K : SV → Prop} (h : cellRK σ s K) : K (s.ren σ) := by
  cases s <;> first | exact natL_spec _ _ _ h | exact h
def cellsRK (σ : List (Option Nat)) : List SV → (List SV → Prop) → Prop
  | [], K => K []
  | x :: xs, K => cellRK σ x fun y => cellsRK σ xs fun ys => K (y :: ys)
theorem cellsRK_spec {σ : List (Option Nat)} : ∀ (l : List SV) (K : List SV → Prop), cellsRK σ l K → K (SV.renL σ l)
  | [], _, h => h
  | _ :: xs, _, h => cellsRK_spec xs _ (cellRK_spec h)
def oneRK (σ : List (Option Nat)) (s : SV) (K : SV → Prop) : Prop := match s with
  | .agg cs => cellsRK σ cs fun cs' => K (.agg cs')
  | s => cellRK σ s K
theorem oneRK_spec {σ : List (Option Nat)} {s : SV} {K : SV → Prop} (h : oneRK σ s K) : K (s.ren σ) := by
  cases s <;> first | exact cellsRK_spec _ _ h | exact cellRK_spec h
def onesRK (σ : List (Option Nat)) : List SV → (List SV → Prop) → Prop
  | [], K => K []
  | x :: xs, K => oneRK σ x fun y => onesRK σ xs fun ys => K (y :: ys)
theorem onesRK_spec {σ : List (Option Nat)} : ∀ (l : List SV) (K : List SV → Prop), onesRK σ l K → K (SV.renL σ l)
  | [], _, h => h
  | _ :: xs, _, h => onesRK_spec xs _ (oneRK_spec h)
def resRK (σ : List (Option Nat)) (s : SV) (K : SV → Prop) : Prop := match s with
  | .tup vs => onesRK σ vs fun vs' => K (.tup vs')
  | s => oneRK σ s K
theorem resRK_spec {σ : List (Option Nat)} {s : SV} {K : SV → Prop} (h : resRK σ s K) : K (s.ren σ) := by
  cases s <;> first | exact onesRK_spec _ _ h | exact oneRK_spec h
def entRK (σ : List (Option Nat)) (e : HE) (K : HE → Prop) : Prop := match e with
  | .blk t cs => cellsRK σ cs fun cs' => K (.blk t cs')
  | e => K e
theorem entRK_spec {σ : List (Option Nat)} {e : HE} {K : HE → Prop} (h : entRK σ e K) : K (e.ren σ) := by
  cases e <;> first | exact cellsRK_spec _ _ h | exact h
def entsRK (σ : List (Option Nat)) : List HE → (List HE → Prop) → Prop
  | [], K => K []
  | x :: xs, K => entRK σ x fun y => entsRK σ xs fun ys => K (y :: ys)
theorem entsRK_spec {σ : List (Option Nat)} : ∀ (l : List HE) (K : List HE → Prop), entsRK σ l K → K (l.map (HE.ren σ))
  | [], _, h => h
  | _ :: xs, _, h => entsRK_spec xs _ (entRK_spec h)
theorem call_sp {P : Program} {w0 : World} {U : Nat → Prop} {f : FuncId} {args args0 : List SV} {H H0 : List HE} {K : SV → List HE → Prop} {R : SV → List HE → Prop} (hS : Spec P f args0 H0 R) (σ : List Nat)
    (hn : σ.Nodup) (hb0 : (H0.all (HE.bdd H0.length) && SV.bddL H0.length args0) = true) (hH : namedAt H (spσ σ H.length 0) σ H0) (ha : args = SV.renL (spσ σ H.length 0) args0)
    (hK : ∀ s H1, R s H1 → lenK H fun n => natL lits (H1.length - σ.length) fun k => spK n k σ fun σ1 => entsRK σ1 H1 fun H1' => forceH (mrgH H σ H1') fun H' => resRK σ1 s fun s' => K s' H') : CallN P w0 U f args H K :=
  call_spec hS σ (namedAt_len hH) hn hb0 (namedAt_get hH) ha fun s H1 hR _ =>
    resRK_spec (forceH_spec _ _ (entsRK_spec _ _ (spK_spec _ _ (natL_spec _ _ _ (lenK_spec (hK s H1 hR))))))
/-- The rows of a list. -/
def rowsF {α : Type} (cell : α → List Value) (d : α) (xs : List α) : Nat → Nat → Value := fun r c => (cell (xs.getD r d)).getD c undef
theorem getD_lt {α : Type} {xs ys : List α} {d : α} {r : Nat} (h : r < xs.length) : (xs ++ ys).getD r d = xs.getD r d := by simp [List.getD, List.getElem?_append_left h]
theorem getD_len {α : Type} {xs : List α} {x d : α} : (xs ++ [x]).getD xs.length d = x := by simp [List.getD]
theorem rowsF_snoc {α : Type} (cell : α → List Value) (d : α) (sz : Nat) (xs : List α) (x : α) : ∀ r c, r < xs.length + 1 → c < sz → rowsApp xs.length (rowsF cell d xs) (fun r c => (cell x).getD (r * sz + c) undef) r c = rowsF cell d (xs ++ [x]) r c :=
  rowsApp_one (fun r c hr _ => by unfold rowsF; rw [getD_lt hr]) (fun c _ => by unfold rowsF; rw [getD_len, Nat.zero_mul, Nat.zero_add])
theorem rowsF_app0 (f g : Nat → Nat → Value) {n sz : Nat} : ∀ r c, r < n → c < sz → rowsApp 0 f g r c = g r c := fun r c _ _ => by simp [rowsApp]
theorem rowsF_one {α : Type} {cell : α → List Value} {d : α} {sz : Nat} (h : ∀ x c, c < sz → ((cell x).getD c undef).oneCell' = true) (xs : List α) {n : Nat} : ∀ r c, r < n → c < sz → (rowsF cell d xs r c).oneCell' = true := fun _ c _ hc => h _ c hc
theorem rowsF_take {α : Type} (cell : α → List Value) (d : α) (xs : List α) (n : Nat) {sz : Nat} : ∀ r c, r < (xs.take n).length → c < sz → rowsF cell d xs r c = rowsF cell d (xs.take n) r c := fun r c hr _ => by
  have hr : r < n ∧ r < xs.length := by simpa [Nat.lt_min] using hr
  unfold rowsF
  simp [List.getD, hr.1]
/-- A call that hands back parts that are known, and leaves memory alone but for new blocks. -/
theorem call_sv {P : Program} {w0 : World} {U : Nat → Prop} {f : FuncId} {args : List SV} {H : List HE} {K : SV → List HE → Prop} {s : SV} (hs : ∀ ρ, s.den ρ = s.den noLoc)
    (hc : ∀ ρ w, HRel w0 U ρ H w → Calls P f (SV.denL ρ args).toArray w fun e w' => e = .returned (s.den noLoc) ∧ w.grownBy w' none) (hK : K s H) : CallN P w0 U f args H K :=
  ⟨fun ρ w hr => (hc ρ w hr).mono fun _ _ ⟨he, hg⟩ => ⟨s, H, ρ, fun ρ'' _ => by rw [hs ρ'']; exact he, hr.grown0 hg, Same.refl _ _, Nat.le_refl _, hK⟩⟩
theorem seg_sv {P : Program} {w0 : World} {U : Nat → Prop} {nb : Nat} {f : FuncId} {args : List SV} {H : List HE} {N : Nat} {K : SV → Option HE → Prop} {s : SV} (hs : ∀ ρ, s.den ρ = s.den noLoc)
    (hc : ∀ ρ w, HRel w0 U ρ H w → Calls P f (SV.denL ρ args).toArray w fun e w' => e = .returned (s.den noLoc) ∧ w.grownBy w' none) (hK : K s none) : CallS P w0 U nb f args H N K :=
  ⟨s, none, hK, fun ρ w hr => (hc ρ w hr).mono fun _ _ ⟨he, hg⟩ => ⟨hg, none, s.den noLoc, fun b hb => (by simp at hb), he, fun ρ' _ _ => ⟨(hs ρ').symm, fun _ h => by cases h⟩⟩⟩
end Go.Proofs.Ytlphkjbadjdleaa
