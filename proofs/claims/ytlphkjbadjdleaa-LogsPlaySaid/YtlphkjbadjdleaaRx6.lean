/-
  The operations that leave the memory alone (4): all of them. No condition.
-/
import Derived.Test.YtlphkjbadjdleaaRx5
import Derived.Test.YtlphkjbadjdleaaRxM
namespace Go.Proofs.Ytlphkjbadjdleaa

section
variable {P : Program} {w0 : World} {U : Nat → Prop} {T : Tab}
theorem allPlaces_spec (hT : TabOK P T) : ∀ (fs : List (Nat × TypeId)) (f : List Field) (ps : List (Nat × Nat)), f.map (fun x => (x.offset, x.type)) = fs → allPlaces T fs = some ps →
    f.mapM (fun f => (P.info? f.type).map fun i => (f.offset, i.size)) = some ps
  | [], [], ps, _, h => by simp [allPlaces] at h; subst h; rfl
  | (off, t) :: fs, x :: f, ps, hf, h => by
    simp only [List.map_cons, List.cons.injEq, Prod.mk.injEq] at hf
    obtain ⟨⟨rfl, rfl⟩, hf⟩ := hf
    unfold allPlaces at h
    split at h
    · rename_i ti ps' ht hp
      obtain ⟨i, z, hi, hs, _, _⟩ := (hT.ty _ _ ht).info
      cases h
      simp [List.mapM_cons, hi, allPlaces_spec hT fs f ps' hf hp, hs]
    · cases h
theorem getP_eq : ∀ (ps : List (Nat × Nat)) (i : Nat), getP ps i = ps[i]?
  | [], _ => rfl
  | x :: _, 0 => rfl
  | _ :: xs, n + 1 => by simp [getP, getP_eq xs n]
theorem opds_map (tm : List SV) : ∀ parts : List (Nat × Operand), opds tm parts = parts.map fun q => (q.1, opd tm q.2)
  | [] => rfl
  | (i, x) :: r => by simp [opds, opds_map tm r]
theorem eq_bool (t : TypeId) (hu : P.underlying t = some .bool) (a b : Bool) (d : Nat) (w : World) : (Op.equalIn (d + 1) t (.bool a) (.bool b)).run P w = .ok (a == b) w := by
  simp [Op.equalIn, run_underlying hu]
theorem eq_ptr (t e : TypeId) (hu : P.underlying t = some (.pointer e)) (a : Option Addr) (d : Nat) (w : World) : (Op.equalIn (d + 1) t (.pointer a) (.pointer none)).run P w = .ok a.isNone w := by
  cases a <;> simp [Op.equalIn, run_underlying hu]
theorem eq_slice (t e : TypeId) (hu : P.underlying t = some (.slice e)) (a : Option Addr) (n c m k : Nat) (d : Nat) (w : World) : (Op.equalIn (d + 1) t (.slice a n c) (.slice none m k)).run P w = .ok a.isNone w := by
  cases a <;> simp [Op.equalIn, run_underlying hu]
theorem eq_map (t k e : TypeId) (hu : P.underlying t = some (.map k e)) (a : Option Nat) (d : Nat) (w : World) : (Op.equalIn (d + 1) t (.map a) (.map none)).run P w = .ok a.isNone w := by
  cases a <;> simp [Op.equalIn, run_underlying hu]
theorem equal_of {t : TypeId} {x y : Value} {b : Bool} {w : World} (h : ∀ d, (Op.equalIn (d + 1) t x y).run P w = .ok b w) : (Op.equal t x y).run P w = .ok b w := h 9999

def PureS (P : Program) (w0 : World) (U : Nat → Prop) (tm : List SV) (H : List HE) (o : Op) (s : SV) : Prop :=
  ∀ (ρ : Loc) (a : Act) (w : World) (dst : Option Tmp) (ty : TypeId) (pos : String) (af : Array Edge) (g : Option (Nat × Bool)), TmOk ρ tm a.tmps → HOk w0 U ρ H w →
    (execOp a.eval ⟨dst, o, ty, pos, af, g⟩).run P w = .ok (.value (s.den ρ)) w

theorem bindv {x : Sem Value} {v : Value} {w : World} (h : x.run P w = .ok v w) : (do pure (.value (← x)) : Sem Next).run P w = .ok (.value v) w := by
  simp [h]

theorem capsK_spec : ∀ (l : List SV) (K : List (Nat × Nat) → Prop), xPure.capsK l K → ∃ cs, K cs ∧ l = capS cs
  | [], K, h => ⟨[], h, rfl⟩
  | .p i o :: r, K, h => by
    obtain ⟨cs, hK, rfl⟩ := capsK_spec r _ h
    exact ⟨_, hK, rfl⟩
  | .junk :: _, K, h => h.elim
  | .v _ :: _, K, h => h.elim
  | .kb _ :: _, K, h => h.elim
  | .s _ _ _ _ :: _, K, h => h.elim
  | .rp _ _ _ _ :: _, K, h => h.elim
  | .rs _ _ _ :: _, K, h => h.elim
  | .os _ _ :: _, K, h => h.elim
  | .m _ :: _, K, h => h.elim
  | .fn _ _ :: _, K, h => h.elim
  | .agg _ :: _, K, h => h.elim
  | .tup _ :: _, K, h => h.elim
theorem capS_den (ρ : Loc) : ∀ cs, SV.denL ρ (capS cs) = cs.map (capV ρ)
  | [] => rfl
  | (i, o) :: r => by simp [capS, SV.denL, SV.den, capV, capS_den ρ r]
theorem capS_nj : ∀ (cs : List (Nat × Nat)), ∀ s ∈ capS cs, s ≠ .junk
  | [], s, h => by cases h
  | (i, o) :: r, s, h => by
    simp only [capS, List.mem_cons] at h
    rcases h with rfl | h
    · exact fun h => by cases h
    · exact capS_nj r s h

theorem boundK_spec {tm : List SV} {x : Option Operand} {d : Nat} {K : Int → Prop} (h : xPure.boundK tm x d K) :
    ∃ m : Int, K m ∧ ((x = none ∧ m = d) ∨ ∃ y k, x = some y ∧ opd tm y = .v (.int k m)) := by
  unfold xPure.boundK at h
  split at h
  · exact ⟨_, h, .inl ⟨rfl, rfl⟩⟩
  · split at h
    · rename_i y k m hy
      exact ⟨m, h, .inr ⟨_, k, rfl, hy⟩⟩
    · exact h.elim

theorem nilSK_spec {w0 : World} {U : Nat → Prop} {H : List HE} {x : SV} {K : Bool → Prop} (h : nilSK H x K) : ∃ b, K b ∧ x ≠ .junk ∧ ∀ ρ w, HOk w0 U ρ H w → ∃ (q : Option Addr) (n c : Nat), x.den ρ = .slice q n c ∧ q.isNone = b := by
  unfold nilSK at h
  split at h
  · rename_i i n c
    split at h
    · rename_i sz n' f hH
      obtain ⟨⟨h0, h1⟩, h⟩ := h
      refine ⟨false, h, fun h => (by cases h), fun ρ w hh => ?_⟩
      obtain ⟨b, off, hb, _, _⟩ := hh.ent i _ (getH_row hH) (by omega)
      exact ⟨_, _, _, rfl, by rw [hb]; rfl⟩
    · exact h.elim
  · rename_i i n
    split at h
    · rename_i ty sz n' f hH
      obtain ⟨⟨h0, h1⟩, h⟩ := h
      refine ⟨false, h, fun h => (by cases h), fun ρ w hh => ?_⟩
      obtain ⟨a, ha, _⟩ := rowOf_spec (i := i) (by rw [hH]; rfl) hh (by omega)
      exact ⟨_, _, _, rfl, by simp [atB', ha]⟩
    · exact h.elim
  · split at h
    · rename_i b hb
      unfold nilS at hb
      split at hb
      · cases hb; exact ⟨_, h, fun h => (by cases h), fun ρ w _ => ⟨_, _, _, rfl, rfl⟩⟩
      · cases hb; exact ⟨_, h, fun h => (by cases h), fun ρ w _ => ⟨_, _, _, rfl, rfl⟩⟩
      · split at hb
        · rename_i hH
          cases hb
          refine ⟨_, h, fun h => (by cases h), fun ρ w hh => ?_⟩
          obtain ⟨b, hb, _⟩ := hh.blk (getH_blk hH)
          exact ⟨_, _, _, rfl, by simp [atB, hb]⟩
        · cases hb
      · cases hb
    · exact h.elim

theorem pure_bin (hT : TabOK P T) {tm : List SV} {H : List HE} {op : BinOp} {t : TypeId} {x y : Operand} {yt : TypeId} {K : SV → Prop} (h : xPure T tm H (.binOp op t x y yt) K) : ∃ s, K s ∧ PureS P w0 U tm H (.binOp op t x y yt) s := by
  have bin : ∀ {a b : SV} {v : Value}, opN tm x = a → opN tm y = b → a ≠ .junk → b ≠ .junk → (∀ ρ w, HOk w0 U ρ H w → (do eqGuard op t x y (a.den ρ) (b.den ρ); binOp op t (a.den ρ) (b.den ρ) : Sem Value).run P w = .ok v w) →
      PureS P w0 U tm H (.binOp op t x y yt) (.v v) := fun hx hy hxj hyj hrun ρ a w dst ty pos af g hm hh => by
    have e1 := opN_eval' hm hx hxj
    have e2 := opN_eval' hm hy hyj
    have := hrun ρ w hh
    simp only [execOp, e1, e2, SV.den]
    exact bindv this
  simp only [xPure] at h
  split at h
  · rename_i k a k' b hx hy
    obtain ⟨rfl, h⟩ := h
    obtain ⟨v, hK, hv⟩ := arith_sound (P := P) h
    exact ⟨_, hK, bin hx hy (fun h => by cases h) (fun h => by cases h) (fun ρ w _ => hv t x y w)⟩
  · rename_i a b hx hy
    obtain ⟨v, hK, hv⟩ := sarith_sound (P := P) h
    exact ⟨_, hK, bin hx hy (fun h => by cases h) (fun h => by cases h) (fun ρ w _ => hv t x y w)⟩
  · rename_i a b hx hy
    split at h
    · rename_i ti ht
      have hu := (hT.ty _ _ ht).und
      split at h
      · rename_i hk
        rw [hk] at hu
        exact ⟨_, h, bin hx hy (fun h => by cases h) (fun h => by cases h) (fun ρ w _ => by
          have := equal_of (w := w) (eq_bool t hu a b · w)
          simp [SV.den, eqGuard, binOp, this])⟩
      · rename_i hk
        rw [hk] at hu
        exact ⟨_, h, bin hx hy (fun h => by cases h) (fun h => by cases h) (fun ρ w _ => by
          have := equal_of (w := w) (eq_bool t hu a b · w)
          simp [SV.den, eqGuard, binOp, this, bne])⟩
      · exact h.elim
    · exact h.elim
  · rename_i xs ys hx hy
    split at h
    · rename_i ti ht
      have he := (hT.ty _ _ ht).eqs
      split at h
      · rename_i hq
        obtain ⟨b, hK, hb⟩ := eqCells_sound _ _ _ _ h
        exact ⟨_, hK, bin hx hy (fun h => by cases h) (fun h => by cases h) (fun ρ w _ => (he hq _ _ _ (hb ρ) x y w).1)⟩
      · rename_i hq
        obtain ⟨b, hK, hb⟩ := eqCells_sound _ _ _ _ h
        exact ⟨_, hK, bin hx hy (fun h => by cases h) (fun h => by cases h) (fun ρ w _ => (he hq _ _ _ (hb ρ) x y w).2)⟩
      · exact h.elim
    · exact h.elim
  · rename_i s v hy _ _ _ _
    split at h
    · rename_i ti ht
      have hu := (hT.ty _ _ ht).und
      split at h
      · rename_i e hk hy _ _ _
        rw [hk] at hu
        have key : ∀ b, nilP H (opN tm x) = some b → opN tm x ≠ .junk ∧ ∀ ρ w, HOk w0 U ρ H w → ∃ q : Option Addr, (opN tm x).den ρ = .pointer q ∧ q.isNone = b := fun b hb => by
          generalize opN tm x = s at hb ⊢
          unfold nilP at hb
          split at hb
          · cases hb; exact ⟨fun h => (by cases h), fun ρ w _ => ⟨_, rfl, rfl⟩⟩
          · cases hb; exact ⟨fun h => (by cases h), fun ρ w _ => ⟨_, rfl, rfl⟩⟩
          · split at hb
            · rename_i hH
              cases hb
              refine ⟨fun h => (by cases h), fun ρ w hh => ?_⟩
              obtain ⟨b, hb, _⟩ := hh.blk (getH_blk hH)
              exact ⟨_, rfl, by simp [atB, hb]⟩
            · rename_i hH
              cases hb
              refine ⟨fun h => (by cases h), fun ρ w hh => ?_⟩
              obtain ⟨sb, mb, hb, _⟩ := hh.ent _ _ (getH_obj1 hH)
              exact ⟨_, rfl, by simp [atB, hb]⟩
            · cases hb
          · cases hb
        unfold eqNil at h
        split at h
        · rename_i b hb
          obtain ⟨hj, hd⟩ := key _ hb
          refine ⟨_, h, bin rfl hy hj (fun h => by cases h) (fun ρ w hh => ?_)⟩
          obtain ⟨q, hq, rfl⟩ := hd ρ w hh
          have := equal_of (w := w) (eq_ptr t e hu q · w)
          rw [hq]
          simp [SV.den, eqGuard, binOp, this]
        · rename_i b hb
          obtain ⟨hj, hd⟩ := key _ hb
          refine ⟨_, h, bin rfl hy hj (fun h => by cases h) (fun ρ w hh => ?_)⟩
          obtain ⟨q, hq, rfl⟩ := hd ρ w hh
          have := equal_of (w := w) (eq_ptr t e hu q · w)
          rw [hq]
          simp [SV.den, eqGuard, binOp, this]
        · exact h.elim
      · rename_i e m k hk hy _ _ _
        rw [hk] at hu
        obtain ⟨bv, h, hj, hd⟩ := nilSK_spec (w0 := w0) (U := U) h
        unfold eqNil at h
        split at h
        · have hb := Option.some.inj ‹some bv = some _›
          subst hb
          refine ⟨_, h, bin rfl hy hj (fun h => by cases h) (fun ρ w hh => ?_)⟩
          obtain ⟨q, n, c, hq, rfl⟩ := hd ρ w hh
          have := equal_of (w := w) (eq_slice t e hu q n c m k · w)
          rw [hq]
          simp [SV.den, eqGuard, binOp, this]
        · have hb := Option.some.inj ‹some bv = some _›
          subst hb
          refine ⟨_, h, bin rfl hy hj (fun h => by cases h) (fun ρ w hh => ?_)⟩
          obtain ⟨q, n, c, hq, rfl⟩ := hd ρ w hh
          have := equal_of (w := w) (eq_slice t e hu q n c m k · w)
          rw [hq]
          simp [SV.den, eqGuard, binOp, this]
        · exact h.elim
      · rename_i k e hk hy _ _ _
        rw [hk] at hu
        have key : ∀ b, nilM H (opN tm x) = some b → opN tm x ≠ .junk ∧ ∀ ρ w, HOk w0 U ρ H w → ∃ q : Option Nat, (opN tm x).den ρ = .map q ∧ q.isNone = b := fun b hb => by
          generalize opN tm x = s at hb ⊢
          unfold nilM at hb
          split at hb
          · split at hb
            · rename_i hH
              cases hb
              refine ⟨fun h => (by cases h), fun ρ w hh => ?_⟩
              obtain ⟨r, hr, _⟩ := hh.ent _ _ (getH_mp hH)
              exact ⟨_, rfl, by simp [hr]⟩
            · cases hb
          · cases hb; exact ⟨fun h => (by cases h), fun ρ w _ => ⟨_, rfl, rfl⟩⟩
          · cases hb; exact ⟨fun h => (by cases h), fun ρ w _ => ⟨_, rfl, rfl⟩⟩
          · cases hb
        unfold eqNil at h
        split at h
        · rename_i b hb
          obtain ⟨hj, hd⟩ := key _ hb
          refine ⟨_, h, bin rfl hy hj (fun h => by cases h) (fun ρ w hh => ?_)⟩
          obtain ⟨q, hq, rfl⟩ := hd ρ w hh
          have := equal_of (w := w) (eq_map t k e hu q · w)
          rw [hq]
          simp [SV.den, eqGuard, binOp, this]
        · rename_i b hb
          obtain ⟨hj, hd⟩ := key _ hb
          refine ⟨_, h, bin rfl hy hj (fun h => by cases h) (fun ρ w hh => ?_)⟩
          obtain ⟨q, hq, rfl⟩ := hd ρ w hh
          have := equal_of (w := w) (eq_map t k e hu q · w)
          rw [hq]
          simp [SV.den, eqGuard, binOp, this]
        · exact h.elim
      · exact h.elim
    · exact h.elim
  · exact h.elim
end
end Go.Proofs.Ytlphkjbadjdleaa
