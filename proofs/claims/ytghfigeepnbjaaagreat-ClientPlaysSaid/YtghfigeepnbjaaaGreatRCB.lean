/-
  The document's client beside the program's: facts of slices, alike, an act's frame. No condition.
-/
import Derived.Test.YtghfigeepnbjaaaGreatRCA
import Derived.Test.YtghfigeepnbjaaaGreatPI
import Derived.Test.YtghfigeepnbjaaaGreatP5
namespace Go.Proofs.YtghfigeepnbjaaaGreat
open Go.RowKit
section
variable {w0 : World} {U : Nat → Prop}
/-- A slice of one's own, from here on read alone. -/
theorem HOk.ownFact {ρ : Loc} {H : List HE} {w : World} {ty : TypeId} {sz n : Nat} {g : Nat → Nat → Value} (h : HOk w0 U ρ (H ++ [.own ty sz n g]) w) {q : Value} (hq : q = (SV.os H.length n).den ρ) :
    HOk w0 U ρ (H ++ [.res false (sliceZ q) fun u => SliceV u q sz n g]) w := by
  have hlast : (H ++ [HE.own ty sz n g])[H.length]? = some (.own ty sz n g) := by simp
  have zf : ∀ b, sliceZ q b → HE.foot ρ H.length (.own ty sz n g) b := fun b ⟨a, m, c, hqa, hab⟩ => by
    rw [hq] at hqa
    simp only [SV.den, atB'] at hqa
    injection hqa with hqa _ _
    obtain ⟨a', ha', hae⟩ := Option.map_eq_some_iff.1 hqa
    refine ⟨a', ha', ?_⟩
    rw [← hab, ← hae]
  have hown := h.ent _ _ hlast
  have hsl : SliceV w q sz n g := by rw [hq]; exact own_sl hown
  have key : ∀ i e, (H ++ [HE.res false (sliceZ q) fun u => SliceV u q sz n g])[i]? = some e → (i < H.length ∧ (H ++ [HE.own ty sz n g])[i]? = some e) ∨ (i = H.length ∧ e = .res false (sliceZ q) fun u => SliceV u q sz n g) := fun i e hi => by
    rcases Nat.lt_or_ge i H.length with hlt | hge
    · rw [List.getElem?_append_left hlt] at hi
      exact .inl ⟨hlt, by rw [List.getElem?_append_left hlt]; exact hi⟩
    · rcases Nat.eq_or_lt_of_le hge with hh | hh
      · subst hh
        exact .inr ⟨rfl, by simpa using hi.symm⟩
      · rw [List.getElem?_eq_none (by simp; omega)] at hi; cases hi
  refine ⟨fun i e hi => ?_, fun i e hi hw b hb => ?_, fun i k d e hik hi hd hk hl b ha hb => ?_, h.fr⟩
  · rcases key i e hi with ⟨_, hi'⟩ | ⟨rfl, rfl⟩
    · exact h.ent i e hi'
    · exact ⟨hsl, fun b hb => HE.ok_lt hown trivial (zf b hb), fun w1 w2 hs h => sliceV_st hs h⟩
  · rcases key i e hi with ⟨_, hi'⟩ | ⟨rfl, rfl⟩
    · exact h.own i e hi' hw b hb
    · cases hw
  · rcases key i d hi with ⟨hil, hi'⟩ | ⟨rfl, rfl⟩
    · rcases key k e hk with ⟨_, hk'⟩ | ⟨rfl, rfl⟩
      · exact h.dis i k d e hik hi' hd hk' hl b ha hb
      · exact h.dis i H.length d _ (by omega) hi' hd hlast trivial b ha (zf b hb)
    · cases hd
/-- A callee's own slice, from here on a fact; its value is written out. -/
theorem call_factA {P : Program} {f : FuncId} {args : List SV} {H : List HE} {K : SV → List HE → Prop} {sv : SV} {ty : TypeId} {sz n : Nat} {g : Nat → Nat → Value} (V : Value → SV)
    (hc : CallN P w0 U f args H fun s H' => s = sv ∧ H' = H ++ [.own ty sz n g]) (hn : 0 < n) (hV : ∀ ρ ρ', sv.den ρ = (V ((SV.os H.length n).den ρ)).den ρ')
    (hK : ∀ (b off c : Nat), appK H (.res false (sliceZ (.slice (some ⟨b, off, none⟩) n c)) fun u => SliceV u (.slice (some ⟨b, off, none⟩) n c) sz n g) fun H' => K (V (.slice (some ⟨b, off, none⟩) n c)) H') : CallN P w0 U f args H K :=
  ⟨fun ρ w hr => (hc.out ρ w hr).mono fun e w' ⟨s, H', ρ', he, hr', hs, hl, h1, h2⟩ => by
    subst h1 h2
    obtain ⟨a, ha, _, _⟩ := rowOf_spec (i := H.length) (sz := sz) (n := n) (f := g) (H := H ++ [.own ty sz n g]) (by
      have : getH (H ++ [HE.own ty sz n g]) H.length = .own ty sz n g := by
        have key : ∀ (L : List HE) (e : HE), getH (L ++ [e]) L.length = e := fun L e => by
          induction L with
          | nil => rfl
          | cons x xs ih => exact ih
        exact key _ _
      rw [this]; rfl) hr'.at hn
    have hq := hK a.block a.off (capB ρ' H.length)
    have hat : atB' ρ' H.length = some ⟨a.block, a.off, none⟩ := by simp [atB', ha]
    refine ⟨_, _, ρ', fun ρ'' _ => (by rw [he ρ' (Same.refl _ _), hV ρ' ρ'']; simp only [SV.den, hat]), fun ρ'' h'' => ?_, hs, by simp, appK_spec _ _ _ hq⟩
    have h'' : Same (H.length + 1) ρ' ρ'' := by simpa using h''
    refine (hr' ρ'' (by simpa using h'')).ownFact ?_
    have := h'' H.length (by omega)
    rw [← hat]
    simp only [SV.den, atB', capB, this]⟩
/-- Ahead of a call: a slice that was there at the beginning, as a fact. -/
theorem call_in {P : Program} {f : FuncId} {args : List SV} {H : List HE} {K : SV → List HE → Prop} {q : Value} {sz n : Nat} {g : Nat → Nat → Value} (hq : SliceV w0 q sz n g) (hb : SV.bddL H.length args = true)
    (h : CallN P w0 noU f args (H ++ [.res false (fun b => sliceZ q b ∧ 0 < n) fun u => SliceV u q sz n g]) K) : CallN P w0 noU f args H K :=
  ⟨fun ρ w hr => by
    have hfr := hr.at.fr
    obtain ⟨a, cap, rfl, h1, h2, h3⟩ := hq
    have zl : ∀ b, (sliceZ (.slice a n cap) b ∧ 0 < n) → b < w0.heap.size := fun b ⟨⟨a', m, c, hqa, hab⟩, hn⟩ => by
      obtain ⟨b', off, hb', hlt, _⟩ := h3 hn
      injection hqa with hqa _ _
      rw [hb'] at hqa
      injection hqa with hqa
      rw [← hab, ← hqa]
      exact hlt
    have hqw : SliceV w (.slice a n cap) sz n g := by
      refine ⟨a, cap, rfl, h1, h2, fun hn => ?_⟩
      obtain ⟨b, off, ha, hb, hc⟩ := h3 hn
      refine ⟨b, off, ha, Nat.lt_of_lt_of_le hb hfr.size, fun r c hr hc' => ?_⟩
      rw [← hc r c hr hc']
      exact World.cell?_of_block (w := w0) (hfr.block b hb (fun h => h.elim))
    refine (h.out ρ w fun ρ' hs => ?_).mono ?_
    · have hok := hr ρ' (hs.mono (by simp))
      refine addHF hok ⟨hqw, fun b hb => Nat.lt_of_lt_of_le (zl b hb) hfr.size, fun w1 w2 hst hs => ?_⟩ (fun hw => by cases hw) (fun i d hi _ hw b hb hd => ?_)
      · obtain ⟨a', cap', e, k1, k2, k3⟩ := hs
        refine ⟨a', cap', e, k1, k2, fun hn => ?_⟩
        obtain ⟨a'', cap'', e'', _, _, k3''⟩ := sliceV_st (fun b hb => hst b ⟨hb, hn⟩) (⟨a', cap', e, k1, k2, k3⟩ : SliceV w1 (.slice a n cap) sz n g)
        rw [e] at e''
        injection e'' with e1 _ e3
        rw [e1]
        exact k3'' hn
      · rcases hw with hw | hw
        · cases hw
        · rcases hok.own i d hi hw b hd with h | h
          · have := zl b hb; omega
          · exact h.elim
    · rintro e w' ⟨sv, H', ρ', h1, h2, h3, h4, h5⟩
      simp only [List.length_append, List.length_cons, List.length_nil] at h3 h4
      exact ⟨sv, H', ρ', h1, h2, h3.mono (by omega), by omega, h5⟩⟩
/-- A slice of a fact lies beside what is sealed. -/
theorem fact_beside {H : List HE} {j i : Nat} {Z Zf : Nat → Prop} {Q Qf : World → Prop} {sz n : Nat} {f : Nat → Nat → Value} {a : Option Addr} {cap : Nat} (hj : getH H j = .res true Z Q) (hi : getH H i = .res false Zf Qf) (hq : ∀ u, Qf u → SliceV u (.slice a n cap) sz n f) (hz : 0 < n → ∀ x, a = some x → Zf x.block) :
    ∀ ρ w, HRel w0 U ρ H w → ∃ a' cap', n ≤ cap' ∧ cap' ≤ maxLen ∧ RowOk w a' sz n f ∧ (0 < n → ∀ x, a' = some x → ¬ Z x.block) ∧ (SV.v (.slice a n cap)).den ρ = .slice a' n cap' := fun ρ w hr => by
  obtain ⟨a', cap', e, h1, h2, h3⟩ := hq w (hr.at.ent i _ (getH_res hi)).1
  injection e with e1 _ e3
  subst e1 e3
  have hij : j ≠ i := fun e => by rw [e, hi] at hj; cases hj
  exact ⟨_, _, h1, h2, h3, fun hn x hx hzx => hr.at.dis j i _ _ hij (getH_res hj) rfl (getH_res hi) trivial x.block hzx (hz hn x hx), rfl⟩
end
set_option maxRecDepth 100000 in
set_option maxHeartbeats 4000000 in
theorem alike_specC (c : CliM) (hc : c.ok) (y : RCy) (b1 : Nat) (Z1 : Nat → Prop) : Spec Tryz.prog 17 [cliP b1, .p 1 0] [.res true Z1 (CliQ b1 c Z1), .blk 85 (rcLi 2 y c (outcC c).1 (outcC c).2), rbkE c.bk] fun s H1 => s = .v (.bool true) ∧ H1 = [.res true Z1 (CliQ b1 c Z1), .blk 85 (rcLi 2 y c (outcC c).1 (outcC c).2), rbkE c.bk] := by
  obtain ⟨⟨o, hs⟩, ho⟩ : ∃ p, outcC c = p := ⟨_, rfl⟩
  rw [ho]
  refine spec_x Tryz.func17 rfl 3 rfl rfl fun w0 U => ?_
  repeat' ((conv => whnf); first
      | refine QuiD.draw (draw_go tabOK (by kernel_rfl) ?_)
      | refine CutN.plain ?_
      | with_reducible refine Br.tt ?_
      | with_reducible refine Br.ff ?_
      | with_reducible refine Br.nt ?_
      | with_reducible refine Br.nf ?_
      | with_reducible refine Br.eeI ?_
      | with_reducible refine Br.nnI ?_
      | refine Br.yes (by decide) ?_
      | refine Br.no (by decide) ?_
      | refine AppN.own ?_
      | refine Need.go rfl ?_
      | refine QuiD.quiet (by kernel_rfl) ?_
      | refine IdxN.lit ?_
      | refine draw_go tabOK (by kernel_rfl) ?_
      | refine Need.go ⟨rfl, rfl⟩ ?_
      | refine Need.go ⟨⟨rfl, rfl, rfl⟩, rfl⟩ ?_
      | (with_reducible refine Br.dec (fun h => ?_) (fun h => ?_); first | (rotate_left; exfalso; omega; clear h) | (exfalso; omega; clear h) | skip)
      | (with_reducible refine Br.eqI (fun h => ?_) (fun h => ?_); first | (rotate_left; exfalso; omega; clear h) | (exfalso; omega; clear h) | skip)
      | (with_reducible refine Br.neI (fun h => ?_) (fun h => ?_); first | (rotate_left; exfalso; omega; clear h) | (exfalso; omega; clear h) | skip)
      | (with_reducible refine Br.eqS (fun h => ?_) (fun h => ?_); first | (rotate_left; exfalso; omega; clear h) | (exfalso; omega; clear h) | skip)
      | (with_reducible refine Br.neS (fun h => ?_) (fun h => ?_); first | (rotate_left; exfalso; omega; clear h) | (exfalso; omega; clear h) | skip)
      | (with_reducible refine Br.nd (fun h => ?_) (fun h => ?_); first | (rotate_left; exfalso; omega; clear h) | (exfalso; omega; clear h) | skip)
      | refine Ar.i64 (by omega) (by omega) ?_
      | (refine cli_outcome c hc 0 rfl ?_; rw [ho])
      | refine cli_busy_s c hc 0 rfl ?_
      | refine cli_seq_s c hc 0 rfl ?_
      | refine cli_tries_s c hc 0 rfl ?_
      | refine Br.yes (by first | (simp; done) | fail) ?_
      | refine Need.go (by first | omega | decide | (simp <;> omega) | fail) ?_
      | refine Need.go (by first | (simp [Value.oneCell'] <;> omega) | fail) ?_
      | refine Need.go ⟨rfl, by omega, getD_one rfl rfl⟩ ?_
      | refine Need.go ⟨rfl, by omega, fun _ _ _ _ => rfl⟩ ?_
      | refine Br.both (fun h => ?_) (fun h => ?_))
  all_goals (conv => whnf)
  all_goals
    refine ⟨_, _, ⟨rfl, rfl⟩, by simp, ⟨rfl, trivial⟩, ⟨[some 0, some 1, some 2], ⟨by decide, rfl⟩, ?_, ?_⟩⟩
    all_goals repeat' (first | exact ⟨beq_self_eq_true (α := Int) _, trivial⟩ | exact beq_self_eq_true (α := Int) _ | exact leT_junk rfl | refine And.intro ?_ ?_ | exact trivial | exact .inl ⟨rfl, rfl⟩ | rfl | exact .inr ⟨_, rfl, rfl, rfl⟩ | exact ⟨_, rfl, trivial⟩ | exact ⟨_, rfl, rfl⟩ | exact ⟨_, rfl, ⟨rfl, rfl, rfl⟩, fun _ _ _ _ => rfl⟩ | exact ⟨_, rfl, ⟨rfl, rfl, .inl rfl⟩, rfl⟩ | exact ⟨_, rfl, ⟨rfl, rfl, .inr rfl⟩, rfl⟩ | exact ⟨_, rfl, ⟨rfl, rfl, rfl, rfl, rfl⟩, rfl⟩ | exact ⟨_, rfl, ⟨rfl, rfl⟩, fun _ => Iff.rfl⟩ | refine ⟨_, rfl, rfl, ?_⟩ | refine ⟨_, rfl, ⟨rfl, rfl, rfl⟩, ?_⟩)
end Go.Proofs.YtghfigeepnbjaaaGreat
