/-
  More words for walks by the executor. No condition.
-/
import Derived.Test.YtlphkjbadjdleaaRxC
namespace Go.Proofs.Ytlphkjbadjdleaa
theorem Br.tt {t f : Prop} (h : t) : Br true t f := Br.yes rfl h
theorem Br.ff {t f : Prop} (h : f) : Br false t f := Br.no rfl h
theorem Br.nt {t f : Prop} (h : f) : Br (!true) t f := Br.no rfl h
theorem Br.nf {t f : Prop} (h : t) : Br (!false) t f := Br.yes rfl h
theorem Br.nd {p : Prop} [Decidable p] {t f : Prop} (h1 : ¬ p → t) (h2 : p → f) : Br (!decide p) t f := ⟨fun h => h1 (by simpa using h), fun h => h2 (by simpa using h)⟩
theorem Br.eeI {a : Int} {t f : Prop} (h : t) : Br (a == a) t f := Br.yes (by simp) h
theorem Br.nnI {a : Int} {t f : Prop} (h : f) : Br (a != a) t f := Br.no (by simp) h
/-- A call, by what its text comes to; the first m blocks keep their names. -/
theorem x_callsK {P : Program} {w0 : World} {U : Nat → Prop} {T : Tab} (hT : TabOK P T) (m : Nat) {f : FuncId} {fn : Func} {c : Code} {args : Array Value} {K : SV → List HE → Prop} (hf : P.funcs[f]? = some fn) (hb : fn.body = some c)
    (svs : List SV) (H : List HE) (hm : m ≤ H.length) (ρ : Loc) (hbT : SV.bddL H.length svs = true) {w : World} (hargs : SV.denL ρ svs = args.toList) (hh : HRel w0 U ρ H w)
    (h : xCode P w0 U T m c (svs ++ List.replicate (fn.ntmps - svs.length) (.v undef)) H
      (fun tm H' => xRet T fn.results tm H' fun s => K s H') (fun _ _ _ => False)
      (fun tm H' => xRet T fn.results tm H' fun s => K s H')) : Calls P f args w fun e w' => ∃ s H' ρ' v, e = .returned v ∧ K s H' ∧ HRel w0 U ρ' H' w' ∧ Same m ρ ρ' ∧ m ≤ H'.length ∧ ∀ ρ'', Same H'.length ρ' ρ'' → v = s.den ρ'' := by
  have hsz : args.size = svs.length := by rw [← Array.length_toList, ← hargs, denL_length]
  have hrel : Rel w0 U ρ (svs ++ List.replicate (fn.ntmps - svs.length) (.v undef)) H { tmps := args ++ Array.replicate (fn.ntmps - args.size) undef, defers := [] } w := by
    refine ⟨rfl, fun ρ' hs => ⟨⟨by simp [hsz], fun i sv hi hj => ?_⟩, hh ρ' hs⟩⟩
    have e : (args ++ Array.replicate (fn.ntmps - args.size) undef).toList = SV.denL ρ' (svs ++ List.replicate (fn.ntmps - svs.length) (.v undef)) := by
      rw [denL_append, denL_same hs svs hbT, hargs, hsz]
      have : ∀ n, SV.denL ρ' (List.replicate n (.v undef)) = List.replicate n undef := fun n => by
        induction n with
        | zero => rfl
        | succ n ih => simp [List.replicate_succ, SV.denL, SV.den, ih]
      rw [this]
      simp
    rw [← Array.getElem?_toList, e, denL_get, hi]
    rfl
  refine calls_of_wp hf hb (wp_mono (xCode_sound hT (ρ0 := ρ) c _ _ _ _ _ h ρ _ w hrel ⟨Same.refl _ _, hm⟩) fun e a' w' he => ?_)
  have fin : ∀ {ρ' : Loc} {tm' : List SV} {H' : List HE}, Rel w0 U ρ' tm' H' a' w' → Same m ρ ρ' ∧ m ≤ H'.length → (xRet T fn.results tm' H' fun s => K s H') →
      ∃ v, (results fn a'.tmps).run P w' = .ok v w' ∧ ∃ s H' ρ' v', Ending.returned v = .returned v' ∧ K s H' ∧ HRel w0 U ρ' H' w' ∧ Same m ρ ρ' ∧ m ≤ H'.length ∧ ∀ ρ'', Same H'.length ρ' ρ'' → v' = s.den ρ'' := fun {ρ' tm' H'} hr' hs' hK => by
    obtain ⟨s, hK, hs⟩ := xRet_sound (w0 := w0) (U := U) hT hK
    have e1 := hs ρ' _ w' (hr'.2 ρ' (Same.refl _ _)).1 (hr'.2 ρ' (Same.refl _ _)).2
    refine ⟨_, e1, s, _, ρ', _, rfl, hK, hr'.h, hs'.1, hs'.2, fun ρ'' h'' => ?_⟩
    have e2 := hs ρ'' _ w' (hr'.2 ρ'' h'').1 (hr'.2 ρ'' h'').2
    rw [e1] at e2
    injection e2
  cases e with
  | normal =>
    obtain ⟨ρ', tm', H', hr', hs', hK⟩ := he
    obtain ⟨v, h1, h2⟩ := fin hr' hs' hK
    exact ⟨hr'.1, v, h1, h2⟩
  | ret =>
    obtain ⟨ρ', tm', H', hr', hs', hK⟩ := he
    obtain ⟨v, h1, h2⟩ := fin hr' hs' hK
    exact ⟨hr'.1, v, h1, h2⟩
  | exit i => obtain ⟨_, _, _, _, _, h⟩ := he; exact h.elim
  | goto l => exact he.elim
  | panic ch => exact he.elim
  | outgrown => exact he.elim
/-- A call in place of which its text is walked. -/
theorem call_inline {w0 : World} {U : Nat → Prop} {f : FuncId} {args : List SV} {H : List HE} {K : SV → List HE → Prop} (m : Nat) (hm : m = H.length) {fn : Func} {c : Code} (hf : Try.prog.funcs[f]? = some fn) (hb : fn.body = some c) (hbd : SV.bddL m args = true)
    (h : xCode Try.prog w0 U tab m c (args ++ List.replicate (fn.ntmps - args.length) (.v undef)) H
      (fun tm H' => xRet tab fn.results tm H' fun s => K s H') (fun _ _ _ => False) (fun tm H' => xRet tab fn.results tm H' fun s => K s H')) : CallN Try.prog w0 U f args H K :=
  ⟨fun ρ w hr => by
    subst hm
    refine (x_callsK tabOK H.length hf hb args H (Nat.le_refl _) ρ hbd rfl hr h).mono ?_
    rintro e w' ⟨s, H', ρ', v, rfl, hK, h1, h2, h3, hv⟩
    exact ⟨s, H', ρ', fun ρ'' h'' => by rw [hv ρ'' h''], h1, h2, h3, hK⟩⟩
theorem call_inlineL {w0 : World} {U : Nat → Prop} {f : FuncId} {args : List SV} {H : List HE} {K : SV → List HE → Prop} {fn : Func} {c : Code} (hf : Try.prog.funcs[f]? = some fn) (hb : fn.body = some c)
    (h : lenK H fun m => Need (SV.bddL m args = true) (xCode Try.prog w0 U tab m c (args ++ List.replicate (fn.ntmps - args.length) (.v undef)) H
      (fun tm H' => xRet tab fn.results tm H' fun s => K s H') (fun _ _ _ => False) (fun tm H' => xRet tab fn.results tm H' fun s => K s H'))) : CallN Try.prog w0 U f args H K := by
  obtain ⟨h1, h2⟩ := lenK_spec h
  exact call_inline _ rfl hf hb h1 h2
/-- A block that may have been written, and was not. -/
theorem fr_back {w w' : World} {b : Nat} {ty : TypeId} {cs : Array Value} (hf : Fr (fun k => k = b) w w') (h : Blk w b ty cs) (h' : Blk w' b ty cs) : w.grownBy w' none :=
  ⟨hf.os, hf.tape, hf.output, hf.size, fun i hi _ => by
    by_cases hib : i = b
    · subst hib
      exact h'.trans h.symm
    · exact hf.block i hi hib⟩
/-- A row, and a block beside it. -/
theorem relRB {w : World} {a : Option Addr} {sz n : Nat} {f : Nat → Nat → Value} (hr : RowOk w a sz n f) {b : Nat} {ty : TypeId} {cs : List SV} {vs : Array Value} (hb : Blk w b ty vs)
    (hcs : ∀ ρ : Loc, ρ 0 = a → (SV.denL ρ cs).toArray = vs) (hap : ∀ x, a = some x → 0 < n → x.block ≠ b) :
    HRel w (fun k => k = b) (fun i => if i = 0 then a else some ⟨b, 0, none⟩) [.row sz n f, .blk ty cs] w := by
  intro ρ' hs
  have h0 : ρ' 0 = a := hs 0 (by simp)
  have h1 : ρ' 1 = some ⟨b, 0, none⟩ := hs 1 (by simp)
  refine ⟨fun i e hi => ?_, fun i e hi hw x hx => ?_, fun i j d e hij hi hd hj hl x hx hy => ?_, Fr.refl _ _⟩
  · rcases i with _ | _ | i
    · simp at hi; subst hi
      intro hn
      obtain ⟨b', off, h2, h3⟩ := hr hn
      exact ⟨b', off, h0.trans h2, h3⟩
    · simp at hi; subst hi
      exact ⟨b, h1, by rw [hcs ρ' h0]; exact hb⟩
    · simp at hi
  · rcases i with _ | _ | i
    · simp at hi; subst hi; exact hw.elim
    · simp at hi; subst hi
      obtain ⟨y, hy, rfl⟩ := hx
      rw [h1] at hy; cases hy
      exact .inr rfl
    · simp at hi
  · rcases i with _ | _ | i
    · simp at hi; subst hi; exact hd.elim
    · rcases j with _ | _ | j
      · simp at hj; subst hj
        simp at hi; subst hi
        obtain ⟨a1, ha1, rfl⟩ := hx
        obtain ⟨a2, ha2, he⟩ := hy
        rw [h1] at ha1; cases ha1
        rw [h0] at ha2
        exact hap a2 ha2 hl he
      · exact absurd rfl hij
      · simp at hj
    · simp at hi
/-- A slice of a row that is known lies apart from a block that is. -/
theorem rs_apart {w0 : World} {U : Nat → Prop} {ρ : Loc} {H : List HE} {w : World} (h : HRel w0 U ρ H w) {i j sz n n' cap : Nat} {f : Nat → Nat → Value} {ty : TypeId} {cs : List SV} (hj : getH H j = .row sz n' f) (hi : getH H i = .blk ty cs) (hn : n ≤ n') {b : Nat} (hb : ρ i = some ⟨b, 0, none⟩) :
    ∀ a k c, (SV.rs j n cap).den ρ = .slice (some a) k c → 0 < k → a.block ≠ b := fun a k c hd hk => by
  simp only [SV.den] at hd
  injection hd with h1 h2 _
  subst h2
  have hij : i ≠ j := fun e => by rw [e, hj] at hi; cases hi
  have := h.at.dis i j _ _ hij (getH_blk hi) trivial (getH_row hj) (show 0 < n' by omega) b ⟨_, hb, rfl⟩
  exact fun e => this ⟨a, h1, e⟩
theorem os_apart {w0 : World} {U : Nat → Prop} {ρ : Loc} {H : List HE} {w : World} (h : HRel w0 U ρ H w) {i j sz n n' : Nat} {f : Nat → Nat → Value} {ty ty' : TypeId} {cs : List SV} (hj : getH H j = .own ty' sz n' f) (hi : getH H i = .blk ty cs) {b : Nat} (hb : ρ i = some ⟨b, 0, none⟩) :
    ∀ a k c, (SV.os j n).den ρ = .slice (some a) k c → 0 < k → a.block ≠ b := fun a k c hd hk => by
  simp only [SV.den, atB'] at hd
  injection hd with h1 h2 _
  subst h2
  obtain ⟨x, hx, hxa⟩ := Option.map_eq_some_iff.1 h1
  have hij : i ≠ j := fun e => by rw [e, hj] at hi; cases hi
  have := h.at.dis i j _ _ hij (getH_blk hi) trivial (getH_own hj) trivial b ⟨_, hb, rfl⟩
  rw [← hxa]
  exact fun e => this ⟨x, hx, e⟩
end Go.Proofs.Ytlphkjbadjdleaa
