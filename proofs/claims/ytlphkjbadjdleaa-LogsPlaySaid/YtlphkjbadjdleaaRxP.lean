/-
  How a contract over a little memory is proved by a walk. No condition.
-/
import Derived.Test.YtlphkjbadjdleaaRxO
namespace Go.Proofs.Ytlphkjbadjdleaa

/-- The end of such a walk: what is handed back, and what is known, forgotten in part. -/
structure SpecEnd (R : SV → List HE → Prop) (H0 : List HE) (s : SV) (H' : List HE) : Prop where
  out : ∃ s0 H1, R s0 H1 ∧ s0 ≠ .junk ∧ keptR H0 H1 ∧ Less H0.length [s] H' [s0] H1
theorem spec_x {f : FuncId} {args : List SV} {H0 : List HE} {R : SV → List HE → Prop} {fn : Func} {c : Code} (hf : Try.prog.funcs[f]? = some fn) (hb : fn.body = some c) (m : Nat) (hm : m = H0.length) (hbd : SV.bddL m args = true)
    (h : ∀ (w0 : World) (U : Nat → Prop), xCode Try.prog w0 U tab m c (args ++ List.replicate (fn.ntmps - args.length) (.v undef)) H0
      (fun tm H' => xRet tab fn.results tm H' fun s => SpecEnd R H0 s H') (fun _ _ _ => False) (fun tm H' => xRet tab fn.results tm H' fun s => SpecEnd R H0 s H')) : Spec Try.prog f args H0 R :=
  ⟨fun ρ w hr => by
    subst hm
    refine (x_callsK tabOK H0.length hf hb args H0 (Nat.le_refl _) ρ hbd rfl hr (h w _)).mono ?_
    rintro e w' ⟨s, H', ρ', v, rfl, ⟨s0, H1, hR, hj, hk, hl⟩, h1, h2, h3, hv⟩
    have hrel : Rel w (SpecU ρ H0) ρ' [s] H' { tmps := #[v], defers := [] } w' := ⟨rfl, fun ρ'' hs => ⟨⟨rfl, fun i x hi _ => by
      cases i with
      | zero => simp at hi; subst hi; simp [hv ρ'' hs]
      | succ i => simp at hi⟩, h1 ρ'' hs⟩⟩
    obtain ⟨ρ1, hr1, hs1, hl1⟩ := hrel.less hl
    refine ⟨s0, H1, ρ1, hR, hk, fun ρ'' hs => ?_, hr1.h, h2.trans hs1 (Nat.le_refl _), hl1⟩
    have := (hr1.2 ρ'' hs).1.2 0 s0 rfl hj
    simp at this
    rw [this]⟩
/-- A contract, used where its function's text is not walked. -/
theorem Spec.mono {P : Program} {f : FuncId} {args : List SV} {H0 : List HE} {R R' : SV → List HE → Prop} (h : Spec P f args H0 R) (k : ∀ s H1, R s H1 → R' s H1) : Spec P f args H0 R' :=
  ⟨fun ρ w hr => (h.out ρ w hr).mono fun _ _ ⟨s, H1, ρ1, hR, h1⟩ => ⟨s, H1, ρ1, k s H1 hR, h1⟩⟩
/-- Where the blocks of a contract stand. -/
def namedAt (H : List HE) (τ : List (Option Nat)) : List Nat → List HE → Prop
  | [], [] => True
  | k :: σ, e :: r => H[k]? = some (e.ren τ) ∧ namedAt H τ σ r
  | _, _ => False
theorem namedAt_len {H : List HE} {τ : List (Option Nat)} : ∀ {σ : List Nat} {H0 : List HE}, namedAt H τ σ H0 → σ.length = H0.length
  | [], [], _ => rfl
  | _ :: _, _ :: _, h => congrArg (· + 1) (namedAt_len h.2)
  | [], _ :: _, h => h.elim
  | _ :: _, [], h => h.elim
theorem namedAt_get {H : List HE} {τ : List (Option Nat)} : ∀ {σ : List Nat} {H0 : List HE}, namedAt H τ σ H0 → ∀ j : Nat, j < H0.length → H[σ.getD j 0]? = (H0[j]?).map (HE.ren τ)
  | [], [], _, j, hj => absurd hj (Nat.not_lt_zero _)
  | k :: σ, e :: r, h, 0, _ => by simpa using h.1
  | k :: σ, e :: r, h, j + 1, hj => by
    have := namedAt_get h.2 j (by simpa using hj)
    simpa using this
  | [], _ :: _, h, _, _ => h.elim
  | _ :: _, [], h, _, _ => h.elim
/-- New names, written out. -/
def tailK (n : Nat) : Nat → Nat → (List (Option Nat) → Prop) → Prop
  | _, 0, K => K []
  | t, k + 1, K => natL lits (n + t) fun m => tailK n (t + 1) k fun r => K (some m :: r)
theorem tailK_spec {n : Nat} : ∀ (k t : Nat) (K : List (Option Nat) → Prop), tailK n t k K → K ((List.range' t k).map fun j => some (n + j))
  | 0, _, _, h => h
  | k + 1, t, K, h => tailK_spec k (t + 1) _ (natL_spec _ _ _ h)
def spK (n k : Nat) : List Nat → (List (Option Nat) → Prop) → Prop
  | [], K => tailK n 0 k K
  | a :: σ, K => spK n k σ fun r => K (some a :: r)
theorem spK_spec {n k : Nat} : ∀ (σ : List Nat) (K : List (Option Nat) → Prop), spK n k σ K → K (spσ σ n k)
  | [], K, h => by
    have := tailK_spec k 0 K h
    rwa [← List.range_eq_range'] at this
  | a :: σ, K, h => spK_spec σ _ h
def cellRK (σ : List (Option Nat)) (s : SV) (K : SV → Prop) : Prop := match s with
  | .v x => K (.v x)
  | .kb b => K (.kb b)
  | .p i o => natL lits (renI σ i) fun j => K (.p j o)
  | .s i o n c => natL lits (renI σ i) fun j => K (.s j o n c)
  | .rp i z r c => natL lits (renI σ i) fun j => K (.rp j z r c)
  | .rs i n c => natL lits (renI σ i) fun j => K (.rs j n c)
  | .os i n => natL lits (renI σ i) fun j => K (.os j n)
  | .ov i z l n => natL lits (renI σ i) fun j => K (.ov j z l n)
  | .m i => natL lits (renI σ i) fun j => K (.m j)
  | s => K (s.ren σ)
theorem cellRK_spec {σ : List (Option Nat)} {s : SV} {K : SV → Prop} (h : cellRK σ s K) : K (s.ren σ) := by
  cases s <;> first | exact natL_spec _ _ _ h | exact h
def cellsRK (σ : List (Option Nat)) : List SV → (List SV → Prop) → Prop
  | [], K => K []
  | x :: xs, K => cellRK σ x fun y => cellsRK σ xs fun ys => K (y :: ys)
theorem cellsRK_spec {σ : List (Option Nat)} : ∀ (l : List SV) (K : List SV → Prop), cellsRK σ l K → K (SV.renL σ l)
  | [], _, h => h
  | _ :: xs, _, h => cellsRK_spec xs _ (cellRK_spec h)
def oneRK (σ : List (Option Nat)) (s : SV) (K : SV → Prop) : Prop := match s with
  | .agg cs => cellsRK σ cs fun cs' => K (.agg cs')
  | s => cellRK σ s K
theorem oneRK_spec {σ : List (Option Nat)} {s : SV} {K : SV → Prop} (h : oneRK σ s K) : K (s.ren σ) := by
  cases s <;> first | exact cellsRK_spec _ _ h | exact cellRK_spec h
def onesRK (σ : List (Option Nat)) : List SV → (List SV → Prop) → Prop
  | [], K => K []
  | x :: xs, K => oneRK σ x fun y => onesRK σ xs fun ys => K (y :: ys)
theorem onesRK_spec {σ : List (Option Nat)} : ∀ (l : List SV) (K : List SV → Prop), onesRK σ l K → K (SV.renL σ l)
  | [], _, h => h
  | _ :: xs, _, h => onesRK_spec xs _ (oneRK_spec h)
def resRK (σ : List (Option Nat)) (s : SV) (K : SV → Prop) : Prop := match s with
  | .tup vs => onesRK σ vs fun vs' => K (.tup vs')
  | s => oneRK σ s K
theorem resRK_spec {σ : List (Option Nat)} {s : SV} {K : SV → Prop} (h : resRK σ s K) : K (s.ren σ) := by
  cases s <;> first | exact onesRK_spec _ _ h | exact oneRK_spec h
def entRK (σ : List (Option Nat)) (e : HE) (K : HE → Prop) : Prop := match e with
  | .blk t cs => cellsRK σ cs fun cs' => K (.blk t cs')
  | e => K e
theorem entRK_spec {σ : List (Option Nat)} {e : HE} {K : HE → Prop} (h : entRK σ e K) : K (e.ren σ) := by
  cases e <;> first | exact cellsRK_spec _ _ h | exact h
def entsRK (σ : List (Option Nat)) : List HE → (List HE → Prop) → Prop
  | [], K => K []
  | x :: xs, K => entRK σ x fun y => entsRK σ xs fun ys => K (y :: ys)
theorem entsRK_spec {σ : List (Option Nat)} : ∀ (l : List HE) (K : List HE → Prop), entsRK σ l K → K (l.map (HE.ren σ))
  | [], _, h => h
  | _ :: xs, _, h => entsRK_spec xs _ (entRK_spec h)
theorem call_sp {P : Program} {w0 : World} {U : Nat → Prop} {f : FuncId} {args args0 : List SV} {H H0 : List HE} {K : SV → List HE → Prop} {R : SV → List HE → Prop} (hS : Spec P f args0 H0 R) (σ : List Nat)
    (hn : σ.Nodup) (hb0 : (H0.all (HE.bdd H0.length) && SV.bddL H0.length args0) = true) (hH : namedAt H (spσ σ H.length 0) σ H0) (ha : args = SV.renL (spσ σ H.length 0) args0)
    (hK : ∀ s H1, R s H1 → lenK H fun n => natL lits (H1.length - σ.length) fun k => spK n k σ fun σ1 => entsRK σ1 H1 fun H1' => forceH (mrgH H σ H1') fun H' => resRK σ1 s fun s' => K s' H') : CallN P w0 U f args H K :=
  call_spec hS σ (namedAt_len hH) hn hb0 (namedAt_get hH) ha fun s H1 hR _ =>
    resRK_spec (forceH_spec _ _ (entsRK_spec _ _ (spK_spec _ _ (natL_spec _ _ _ (lenK_spec (hK s H1 hR))))))
theorem set_self {H : List HE} {k : Nat} {x : HE} (h : H[k]? = some x) : H.set k x = H := by
  obtain ⟨hk, rfl⟩ := List.getElem?_eq_some_iff.1 h
  exact List.set_getElem_self hk
theorem mrgH_self {H : List HE} {τ : List (Option Nat)} : ∀ {σ : List Nat} {H0 : List HE}, namedAt H τ σ H0 → mrgH H σ (H0.map (HE.ren τ)) = H
  | [], [], _ => by simp [mrgH]
  | _ :: _, _ :: _, h => by
    simp only [List.map_cons, mrgH]
    rw [set_self h.1]
    exact mrgH_self h.2
  | [], _ :: _, h => h.elim
  | _ :: _, [], h => h.elim
/-- A contract that leaves all as it was known, in a region that draws its order. -/
theorem seg_sp {P : Program} {w0 : World} {U : Nat → Prop} {nb N : Nat} {f : FuncId} {args args0 : List SV} {H H0 : List HE} {K : SV → Option HE → Prop} {s0 : SV} (hS : Spec P f args0 H0 fun s H1 => s = s0 ∧ H1 = H0) (hcl : ∀ ρ, s0.den ρ = s0.den noLoc) (σ : List Nat)
    (hn : σ.Nodup) (hb0 : (H0.all (HE.bdd H0.length) && SV.bddL H0.length args0) = true) (hN : namedAt (H.take nb) (spσ σ (H.take nb).length 0) σ H0) (ha : args = SV.renL (spσ σ (H.take nb).length 0) args0) (hK : K s0 none) : CallS P w0 U nb f args H N K :=
  ⟨s0, none, hK, fun ρ w _ hb => (spec_frame hS σ (namedAt_len hN) hn hb0 (namedAt_get hN) ha hb).mono fun e w' ⟨s, H1, ρ', ⟨h5, h6⟩, _, h1, h2, h3, _, hT, _⟩ => by
    subst h5 h6
    have e0 : H1.length - σ.length = 0 := by rw [namedAt_len hN]; omega
    rw [e0, mrgH_self hN] at h1 h2
    refine ⟨.inr ⟨hT, fun ρ'' hs => h2 ρ'' fun i hi => (hs i hi).trans (h3 i hi).symm⟩, none, s.den noLoc, fun b hb => (by simp at hb), ?_, fun ρ'' _ _ => ⟨(hcl ρ'').symm, fun _ h => by cases h⟩⟩
    rw [h1 ρ' (Same.refl _ _), ← den_all (σ := spσ σ (H.take nb).length 0) (fun _ => rfl), hcl]⟩
theorem mrgH_self1 {H : List HE} {τ : List (Option Nat)} {d : HE} : ∀ {σ : List Nat} {H0 : List HE}, namedAt H τ σ H0 → mrgH H σ ((H0 ++ [d]).map (HE.ren τ)) = H ++ [d.ren τ]
  | [], [], _ => by simp [mrgH]
  | _ :: _, _ :: _, h => by
    simp only [List.cons_append, List.map_cons, mrgH]
    rw [set_self h.1]
    exact mrgH_self1 h.2
  | [], _ :: _, h => h.elim
  | _ :: _, [], h => h.elim
/-- The same of one that hands back a slice of its own. -/
theorem seg_sp1 {P : Program} {w0 : World} {U : Nat → Prop} {nb N : Nat} {f : FuncId} {args args0 : List SV} {H H0 : List HE} {K : SV → Option HE → Prop} {ty : TypeId} {sz n m : Nat} {g : Nat → Nat → Value} (hm : m = H0.length) (hS : Spec P f args0 H0 fun s H1 => s = .os m n ∧ H1 = H0 ++ [.own ty sz n g]) (σ : List Nat)
    (hn : σ.Nodup) (hb0 : (H0.all (HE.bdd H0.length) && SV.bddL H0.length args0) = true) (hN : ∀ k, namedAt (H.take nb) (spσ σ (H.take nb).length k) σ H0) (ha : args = SV.renL (spσ σ (H.take nb).length 0) args0) (hbb : (H.take nb).all (HE.bdd (H.take nb).length) = true) (hK : K (.os N n) (some (.own ty sz n g))) : CallS P w0 U nb f args H N K :=
  ⟨.os N n, _, hK, fun ρ w _ hb => (spec_frame hS σ (namedAt_len (hN 0)) hn hb0 (namedAt_get (hN 0)) ha hb).mono fun e w' ⟨s, H1, ρ', ⟨h5, h6⟩, _, h1, h2, h3, _, hT, hfr⟩ => by
    subst h5 h6 hm
    have e0 : (H0 ++ [HE.own ty sz n g]).length - σ.length = 1 := by rw [namedAt_len (hN 0)]; simp
    rw [e0, mrgH_self1 (hN 1)] at h1 h2
    have hnm : renI (spσ σ (H.take nb).length 1) H0.length = (H.take nb).length := by
      have := spσ_ge (σ := σ) (n := (H.take nb).length) (k := 1) (t := 0) (by omega)
      rwa [Nat.add_zero, Nat.add_zero, namedAt_len (hN 0)] at this
    have hlast : (H.take nb ++ [HE.own ty sz n g])[(H.take nb).length]? = some (.own ty sz n g) := by simp
    have hbase : ∀ ρ'', Same (H.take nb).length ρ ρ'' → HOk w0 U ρ'' (H.take nb) w' := fun ρ'' hs => by
      let ρ3 : Loc := fun i => if i = (H.take nb).length then ρ' i else ρ'' i
      have h33 : Same (H.take nb).length ρ3 ρ'' := fun i hi => (if_neg (Nat.ne_of_lt hi)).symm
      have hok := h2 ρ3 fun i hi => by
        simp only [List.length_append, List.length_cons, List.length_nil] at hi
        rcases Nat.lt_or_ge i (H.take nb).length with h | h
        · rw [← h33 i h, hs i h, h3 i h]
        · exact if_pos (by omega)
      have lft : ∀ {i : Nat} {e : HE}, (H.take nb)[i]? = some e → (H.take nb ++ [HE.own ty sz n g])[i]? = some e := fun hi => by
        rw [List.getElem?_append_left (List.getElem?_eq_some_iff.1 hi).1]; exact hi
      have ft : ∀ {i : Nat} {e : HE} {b : Nat}, (H.take nb)[i]? = some e → e.foot ρ'' i b → e.foot ρ3 i b := fun hi hx => (HE.foot_congr (h33 _ (List.getElem?_eq_some_iff.1 hi).1) _).1 hx
      refine ⟨fun i e hi => ?_, fun i e hi hw b hx => hok.own i e (lft hi) hw b (ft hi hx), fun i j d e hij hi hd hj hl x hx hy => hok.dis i j d e hij (lft hi) hd (lft hj) hl x (ft hi hx) (ft hj hy), hok.fr⟩
      exact HE.ok_same (hok.ent i e (lft hi)) (List.all_eq_true.1 hbb e (List.mem_of_getElem? hi)) (List.getElem?_eq_some_iff.1 hi).1 h33
    have hv := h1 ρ' (Same.refl _ _)
    simp only [SV.ren, hnm] at hv
    have hown := h2.at.ent _ _ hlast
    refine ⟨.inr ⟨hT, hbase⟩, ρ' (H.take nb).length, _, fun b hb => hfr _ rfl trivial b.block ⟨b, hb, rfl⟩, hv, fun ρ'' _ hN' => ?_⟩
    have hN' := hN' rfl
    have ev : (SV.os (H.take nb).length n).den ρ' = (SV.os N n).den ρ'' := by simp only [SV.den, atB', capB, hN']
    refine ⟨ev, fun e0 h0 => ?_⟩
    cases h0
    refine ⟨?_, fun b ⟨a, ha, hab⟩ => hfr _ rfl trivial b ⟨a, hN' ▸ ha, hab⟩⟩
    show w'.ownsRow 0 ty sz ((SV.os N n).den ρ'') n _
    rw [← ev]
    exact hown⟩
/-- Ahead of a region that draws its order what is known may be put in other words (all names stay). -/
theorem draw_less {P : Program} {w0 : World} {U : Nat → Prop} {id : Nat} {ops : Array Oper} {tm tm1 : List SV} {H H1 : List HE} {K : List SV → List HE → Prop} (hl : Less H.length tm H tm1 H1) (hlen : H1.length = H.length) (h : DrawN P w0 U id ops tm1 H1 K) : DrawN P w0 U id ops tm H K :=
  ⟨fun ρ a w hr => by
    obtain ⟨ρ1, h1, h2, _⟩ := hr.less hl
    refine Code.wp_mono (fun e a' w' ⟨he, ρ', tm', H', hr', ⟨hs, hle⟩, hK⟩ => ⟨he, ρ', tm', H', hr', ⟨h2.trans (hlen ▸ hs) (Nat.le_refl _), hlen ▸ hle⟩, hK⟩) (h.out ρ1 a w h1)⟩
/-- The rows of a list. -/
def rowsF {α : Type} (cell : α → List Value) (d : α) (xs : List α) : Nat → Nat → Value := fun r c => (cell (xs.getD r d)).getD c undef
theorem getD_lt {α : Type} {xs ys : List α} {d : α} {r : Nat} (h : r < xs.length) : (xs ++ ys).getD r d = xs.getD r d := by simp [List.getD, List.getElem?_append_left h]
theorem getD_len {α : Type} {xs : List α} {x d : α} : (xs ++ [x]).getD xs.length d = x := by simp [List.getD]
theorem rowsF_snoc {α : Type} (cell : α → List Value) (d : α) (sz : Nat) (xs : List α) (x : α) : ∀ r c, r < xs.length + 1 → c < sz → rowsApp xs.length (rowsF cell d xs) (fun r c => (cell x).getD (r * sz + c) undef) r c = rowsF cell d (xs ++ [x]) r c :=
  rowsApp_one (fun r c hr _ => by unfold rowsF; rw [getD_lt hr]) (fun c _ => by unfold rowsF; rw [getD_len, Nat.zero_mul, Nat.zero_add])
theorem rowsF_app0 (f g : Nat → Nat → Value) {n sz : Nat} : ∀ r c, r < n → c < sz → rowsApp 0 f g r c = g r c := fun r c _ _ => by simp [rowsApp]
theorem rowsF_one {α : Type} {cell : α → List Value} {d : α} {sz : Nat} (h : ∀ x c, c < sz → ((cell x).getD c undef).oneCell' = true) (xs : List α) {n : Nat} : ∀ r c, r < n → c < sz → (rowsF cell d xs r c).oneCell' = true := fun _ c _ hc => h _ c hc
theorem rowsF_take {α : Type} (cell : α → List Value) (d : α) (xs : List α) (n : Nat) {sz : Nat} : ∀ r c, r < (xs.take n).length → c < sz → rowsF cell d xs r c = rowsF cell d (xs.take n) r c := fun r c hr _ => by
  have hr : r < n ∧ r < xs.length := by simpa [Nat.lt_min] using hr
  unfold rowsF
  simp [List.getD, hr.1]
/-- A call that hands back parts that are known, and leaves memory alone but for new blocks. -/
theorem call_sv {P : Program} {w0 : World} {U : Nat → Prop} {f : FuncId} {args : List SV} {H : List HE} {K : SV → List HE → Prop} {s : SV} (hs : ∀ ρ, s.den ρ = s.den noLoc)
    (hc : ∀ ρ w, HRel w0 U ρ H w → Calls P f (SV.denL ρ args).toArray w fun e w' => e = .returned (s.den noLoc) ∧ w.grownBy w' none) (hK : K s H) : CallN P w0 U f args H K :=
  ⟨fun ρ w hr => (hc ρ w hr).mono fun _ _ ⟨he, hg⟩ => ⟨s, H, ρ, fun ρ'' _ => by rw [hs ρ'']; exact he, hr.grown0 hg, Same.refl _ _, Nat.le_refl _, hK⟩⟩
theorem seg_sv {P : Program} {w0 : World} {U : Nat → Prop} {nb : Nat} {f : FuncId} {args : List SV} {H : List HE} {N : Nat} {K : SV → Option HE → Prop} {s : SV} (hs : ∀ ρ, s.den ρ = s.den noLoc)
    (hc : ∀ ρ w, HRel w0 U ρ H w → Calls P f (SV.denL ρ args).toArray w fun e w' => e = .returned (s.den noLoc) ∧ w.grownBy w' none) (hK : K s none) : CallS P w0 U nb f args H N K :=
  ⟨s, none, hK, fun ρ w hr _ => (hc ρ w hr).mono fun _ _ ⟨he, hg⟩ => ⟨.inl hg, none, s.den noLoc, fun b hb => (by simp at hb), he, fun ρ' _ _ => ⟨(hs ρ').symm, fun _ h => by cases h⟩⟩⟩
end Go.Proofs.Ytlphkjbadjdleaa
