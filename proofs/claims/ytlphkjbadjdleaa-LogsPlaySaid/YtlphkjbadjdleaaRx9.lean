/-
  The operations, one after the other; the regions. No condition.
-/
import Derived.Test.YtlphkjbadjdleaaRx8
import Derived.Great.BuildSlice
namespace Go.Proofs.Ytlphkjbadjdleaa

theorem setK_spec : ∀ (tm : List SV) (d : Nat) (s : SV) (K : List SV → Prop), setK tm d s K → K (tm.set d s)
  | [], _, _, _, h => by simpa [setK] using h
  | _ :: _, 0, _, _, h => by simpa [setK] using h
  | x :: xs, n + 1, s, K, h => by
    have := setK_spec xs n s _ h
    simpa using this
theorem setHK_spec : ∀ (tm : List HE) (d : Nat) (s : HE) (K : List HE → Prop), setHK tm d s K → K (tm.set d s)
  | [], _, _, _, h => by simpa [setHK] using h
  | _ :: _, 0, _, _, h => by simpa [setHK] using h
  | x :: xs, n + 1, s, K, h => by
    have := setHK_spec xs n s _ h
    simpa using this
theorem appK_spec : ∀ (H : List HE) (e : HE) (K : List HE → Prop), appK H e K → K (H ++ [e])
  | [], _, _, h => h
  | x :: xs, e, K, h => by
    have := appK_spec xs e _ h
    simpa using this
theorem TmOk.set {ρ : Loc} {tm : List SV} {ts : Array Value} (h : TmOk ρ tm ts) (d : Nat) {s : SV} {v : Value} (hv : v = s.den ρ) : TmOk ρ (tm.set d s) (ts.setIfInBounds d v) := by
  refine ⟨by simp [h.1], fun i sv hi hj => ?_⟩
  rw [List.getElem?_set] at hi
  rw [Array.getElem?_setIfInBounds]
  split at hi
  · rename_i hd
    subst hd
    split at hi
    · rename_i hlt
      cases hi
      rw [if_pos rfl, if_pos (by rw [h.1]; exact hlt), hv]
    · cases hi
  · rename_i hd
    rw [if_neg hd]
    exact h.2 i sv hi hj

section
variable {P : Program} {w0 : World} {U : Nat → Prop} {T : Tab}
theorem putK_rel {ρ' : Loc} {tm : List SV} {H' : List HE} {a : Act} {w' : World} {dst : Option Tmp} {s : SV} {v : Value} {K : List SV → Prop} (h : putK dst tm s K) (hd : a.defers = [])
    (hr : ∀ ρ'', Same H'.length ρ' ρ'' → TmOk ρ'' tm a.tmps ∧ HOk w0 U ρ'' H' w' ∧ (dst.isSome = true → v = s.den ρ'')) : ∃ tm', K tm' ∧ Rel w0 U ρ' tm' H' (a.put dst v) w' := by
  unfold putK at h
  split at h
  · exact ⟨tm, h, hd, fun ρ'' hs => ⟨(hr ρ'' hs).1, (hr ρ'' hs).2.1⟩⟩
  · rename_i d
    exact ⟨_, setK_spec _ _ _ _ h, hd, fun ρ'' hs => ⟨(hr ρ'' hs).1.set d ((hr ρ'' hs).2.2 rfl), (hr ρ'' hs).2.1⟩⟩

/-- What an operation leaves. -/
structure After (w0 : World) (U : Nat → Prop) (ρ : Loc) (H : List HE) (sv : SV) (H' : List HE) (ρ' : Loc) (v : Value) (w' : World) : Prop where
  same : Same H.length ρ ρ'
  le : H.length ≤ H'.length
  rel : HRel w0 U ρ' H' w'
  val : ∀ ρ'', Same H'.length ρ' ρ'' → v = sv.den ρ''

theorem argsK_spec {tm : List SV} : ∀ (l : List Operand) (K : List SV → Prop), argsK tm l K → K (l.map (opd tm)) ∧ ∀ s ∈ l.map (opd tm), s ≠ .junk
  | [], K, h => ⟨h, fun _ h => by cases h⟩
  | x :: xs, K, h => by
    obtain ⟨h, hj⟩ := nj_spec h
    obtain ⟨h, hjs⟩ := argsK_spec xs _ h
    refine ⟨h, fun s hs => ?_⟩
    rcases List.mem_cons.1 hs with rfl | hs
    · exact hj
    · exact hjs s hs
theorem joinK_spec : ∀ (l m : List SV) (K : List SV → Prop), joinK l m K → K (l ++ m)
  | [], _, _, h => h
  | _ :: xs, m, _, h => joinK_spec xs m _ h
theorem denL_append (ρ : Loc) (l m : List SV) : SV.denL ρ (l ++ m) = SV.denL ρ l ++ SV.denL ρ m := by simp [denL_eq]

theorem callX_spec (hT : TabOK P T) {tm : List SV} {f : Operand} {args : List Operand} {K : FuncId → List SV → Prop} (h : callX T tm f args K) :
    ∃ g all, K g all ∧ ∀ (ρ : Loc) (a : Act) (w : World) (c : Call) (dst : Option Tmp) (ty : TypeId) (pos : String) (af : Array Edge) (gd : Option (Nat × Bool)), c.callee = .value f → c.args.toList = args → TmOk ρ tm a.tmps →
      (execOp a.eval ⟨dst, .call c, ty, pos, af, gd⟩).run P w = .ok (.enter g (SV.denL ρ all).toArray) w := by
  unfold callX at h
  split at h
  · rename_i g caps hf
    split at h
    · rename_i hg
      obtain ⟨h, hj⟩ := argsK_spec _ _ h
      have h := joinK_spec _ _ _ h
      refine ⟨g, _, h, fun ρ a w c dst ty pos af gd hc ha hm => ?_⟩
      have e1 := opd_eval' hm hf (fun h => by cases h)
      have e2 : c.args.map a.eval = (SV.denL ρ (args.map (opd tm))).toArray := by
        apply Array.ext'
        rw [Array.toList_map, ha, opdL_eval hm args hj]
      simp only [execOp, resolve, hc, e1, e2, SV.den, Deferred.ofValue, Sem.run_bind, Sem.run_pure, Result.andThen_ok, invoke]
      rw [hT.fn g hg]
      congr 2
      rw [denL_append, capS_den]
      simp
    · exact h.elim
  · exact h.elim

theorem flat_zero (z : List Value) : ∀ n, (List.range (n * z.length)).map (fun i => z.toArray[i % z.length]!) = (List.replicate n z).flatten
  | 0 => by simp
  | n + 1 => by
    rw [Nat.succ_mul, List.range_add, List.map_append, flat_zero z n, List.replicate_succ', List.flatten_append]
    congr 1
    simp only [List.map_map, List.flatten_cons, List.flatten_nil, List.append_nil]
    apply List.ext_getElem?
    intro j
    rw [List.getElem?_map]
    by_cases hj : j < z.length
    · rw [List.getElem?_range hj]
      simp [Nat.add_comm (n * z.length), Nat.mod_eq_of_lt hj, hj]
    · rw [List.getElem?_eq_none (by simp; omega), List.getElem?_eq_none (by omega)]
      rfl
end
end Go.Proofs.Ytlphkjbadjdleaa
