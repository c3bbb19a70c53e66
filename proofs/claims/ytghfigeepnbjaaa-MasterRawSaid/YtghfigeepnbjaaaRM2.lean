/-
  The document's master: out. No condition.
-/
import Derived.Test.YtghfigeepnbjaaaRM1
import Derived.Test.YtghfigeepnbjaaaPA
namespace Go.Proofs.Ytghfigeepnbjaaa
open Go.RowKit
section
variable {w0 : World} {U : Nat → Prop}
/-- As call_seal, of a slice that is not empty: its address is written out. -/
theorem call_sealA {P : Program} {f : FuncId} {args : List SV} {H : List HE} {K : SV → List HE → Prop} {sv : SV} {ty : TypeId} {sz n : Nat} {g : Nat → Nat → Value} (j : Nat) {Z : Nat → Prop} {Q : World → Prop} (V : Value → SV)
    (hc : CallN P w0 U f args H fun s H' => s = sv ∧ H' = H ++ [.own ty sz n g]) (hn : 0 < n) (hV : ∀ ρ ρ', sv.den ρ = (V ((SV.os H.length n).den ρ)).den ρ') (hj : getH H j = .res true Z Q)
    (hK : ∀ (b off c : Nat), setHK H j (.res true (fun x => Z x ∨ sliceZ (.slice (some ⟨b, off, none⟩) n c) x) fun u => Q u ∧ SliceV u (.slice (some ⟨b, off, none⟩) n c) sz n g) fun H1 => appK H1 .none fun H' => K (V (.slice (some ⟨b, off, none⟩) n c)) H') : CallN P w0 U f args H K :=
  ⟨fun ρ w hr => (hc.out ρ w hr).mono fun e w' ⟨s, H', ρ', he, hr', hs, hl, h1, h2⟩ => by
    subst h1 h2
    obtain ⟨a, ha, _, _⟩ := rowOf_spec (i := H.length) (sz := sz) (n := n) (f := g) (H := H ++ [.own ty sz n g]) (by
      have : getH (H ++ [HE.own ty sz n g]) H.length = .own ty sz n g := by
        have h := getH_spec (H ++ [HE.own ty sz n g]) H.length
        have key : ∀ (L : List HE) (e : HE), getH (L ++ [e]) L.length = e := fun L e => by
          induction L with
          | nil => rfl
          | cons x xs ih => exact ih
        exact key _ _
      rw [this]; rfl) hr'.at hn
    have hq := hK a.block a.off (capB ρ' H.length)
    have hat : atB' ρ' H.length = some ⟨a.block, a.off, none⟩ := by simp [atB', ha]
    refine ⟨_, _, ρ', fun ρ'' _ => (by rw [he ρ' (Same.refl _ _), hV ρ' ρ'']; simp only [SV.den, hat]), fun ρ'' h'' => ?_, hs, by simp, appK_spec _ _ _ (setHK_spec _ _ _ _ hq)⟩
    have h'' : Same (H.length + 1) ρ' ρ'' := by simpa using h''
    refine (hr' ρ'' (by simpa using h'')).sealIn (getH_res hj) ?_
    have := h'' H.length (by omega)
    rw [← hat]
    simp only [SV.den, atB', capB, this]⟩
end
theorem res_q {w0 : World} {U : Nat → Prop} {ρ : Loc} {H : List HE} {w : World} {i : Nat} {wr : Bool} {Z : Nat → Prop} {Q : World → Prop} (h : HRel w0 U ρ H w) (hi : getH H i = .res wr Z Q) : Q w := (h.at.ent i _ (getH_res hi)).1
/-- A member is taken out of the document's master. -/
def outD (m : RMasM) (n : Int) : RMasM := { m with ch := (withoutM m.ch n).1, knows := dropN m.knows n }
def mayOut (m : RMasM) (n : Int) : Bool := (withoutM m.ch n).2 == 0 && goesR m n
set_option maxRecDepth 100000 in
set_option maxHeartbeats 2000000 in
theorem rmOut_no (x : RLoc) (m : RMasM) (hm : m.ok) (hx : x.ok m) (n : Int) (h0 : mayOut m n = false) : Spec Try.prog 68 [.p 0 0, .v (.int .i64 n)] (rmasH x m) fun s H1 => s = .v (.bool false) ∧ H1 = rmasH x m := by
  have hl := okCh_len hm.ch
  obtain ⟨c1, er, hc1⟩ : ∃ c1 er, withoutM m.ch n = (c1, er) := ⟨_, _, rfl⟩
  obtain ⟨go, hgo⟩ : ∃ go, goesR m n = go := ⟨_, rfl⟩
  have hg := rmGoes x m hm n
  rw [hgo] at hg
  unfold mayOut at h0
  rw [hc1, hgo] at h0
  refine spec_x Try.func68 rfl 3 rfl rfl fun w0 U => ?_
  by_cases he : er = 0
  · have hgf : go = false := by simpa [he] using h0
    subst hgf
    repeat' ((conv => whnf); first
        | refine CutN.plain ?_
        | with_reducible refine Br.tt ?_
        | with_reducible refine Br.ff ?_
        | with_reducible refine Br.nt ?_
        | with_reducible refine Br.nf ?_
        | with_reducible refine Br.eeI ?_
        | with_reducible refine Br.nnI ?_
        | refine Br.yes (by decide) ?_
        | refine Br.no (by decide) ?_
        | refine Need.go rfl ?_
        | refine QuiD.quiet (by kernel_rfl) ?_
        | refine IdxN.lit ?_
        | refine draw_go tabOK (by kernel_rfl) ?_
        | refine Need.go ⟨rfl, rfl⟩ ?_
        | refine Need.go ⟨⟨rfl, rfl, rfl⟩, rfl⟩ ?_
        | (with_reducible refine Br.dec (fun h => ?_) (fun h => ?_) <;> first | (exfalso; omega) | skip)
        | (with_reducible refine Br.eqI (fun h => ?_) (fun h => ?_) <;> first | (exfalso; omega) | skip)
        | (with_reducible refine Br.neI (fun h => ?_) (fun h => ?_) <;> first | (exfalso; omega) | skip)
        | (with_reducible refine Br.eqS (fun h => ?_) (fun h => ?_) <;> first | (exfalso; omega) | skip)
        | (with_reducible refine Br.neS (fun h => ?_) (fun h => ?_) <;> first | (exfalso; omega) | skip)
        | (with_reducible refine Br.nd (fun h => ?_) (fun h => ?_) <;> first | (exfalso; omega) | skip)
        | refine Ar.i64 (by omega) (by omega) ?_
        | refine rWithout_n m.ch c1 n er hc1 (.v (x.mem m.ch)) (fun ρ w h => hx w (res_q h (i := 2) rfl)) (by omega) ?_
        | (refine call_sp (f := 74) (hg) [0, 1, 2] (by decide) rfl ⟨rfl, rfl, rfl, trivial⟩ rfl ?_; rintro s H1 ⟨rfl, rfl⟩)
        | (refine seg_sp (f := 74) (hg) (fun _ => rfl) [0, 1, 2] (by decide) rfl ⟨rfl, rfl, rfl, trivial⟩ rfl ?_)
        | refine Need.go (by first | omega | decide | (simp <;> omega) | fail) ?_
        | refine Need.go (by first | (simp [Value.oneCell'] <;> omega) | fail) ?_
        | refine Need.go ⟨rfl, by omega, getD_one rfl rfl⟩ ?_
        | refine Need.go ⟨rfl, by omega, fun _ _ _ _ => rfl⟩ ?_
        | (refine Br.both (fun h => ?_) (fun h => ?_) <;> first | (exfalso; omega) | skip))
    all_goals (conv => whnf)
    refine ⟨_, _, ⟨rfl, rfl⟩, by simp, ⟨rfl, trivial⟩, ⟨[some 0, some 1, some 2], ⟨by decide, rfl⟩, ?_, ?_⟩⟩
    all_goals repeat' (first | exact leT_junk rfl | refine And.intro ?_ ?_ | exact trivial | exact .inl ⟨rfl, rfl⟩ | rfl | exact .inr ⟨_, rfl, rfl, rfl⟩ | exact ⟨_, rfl, trivial⟩ | exact ⟨_, rfl, rfl⟩ | exact ⟨_, rfl, ⟨rfl, rfl, rfl⟩, fun _ _ _ _ => rfl⟩ | exact ⟨_, rfl, ⟨rfl, rfl, .inl rfl⟩, rfl⟩ | exact ⟨_, rfl, ⟨rfl, rfl, .inr rfl⟩, rfl⟩ | exact ⟨_, rfl, ⟨rfl, rfl, rfl, rfl, rfl⟩, rfl⟩ | exact ⟨_, rfl, ⟨rfl, rfl⟩, fun _ => Iff.rfl⟩ | refine ⟨_, rfl, rfl, ?_⟩ | refine ⟨_, rfl, ⟨rfl, rfl, rfl⟩, ?_⟩)
  · repeat' ((conv => whnf); first
      | refine CutN.plain ?_
      | with_reducible refine Br.tt ?_
      | with_reducible refine Br.ff ?_
      | with_reducible refine Br.nt ?_
      | with_reducible refine Br.nf ?_
      | with_reducible refine Br.eeI ?_
      | with_reducible refine Br.nnI ?_
      | refine Br.yes (by decide) ?_
      | refine Br.no (by decide) ?_
      | refine Need.go rfl ?_
      | refine QuiD.quiet (by kernel_rfl) ?_
      | refine IdxN.lit ?_
      | refine draw_go tabOK (by kernel_rfl) ?_
      | refine Need.go ⟨rfl, rfl⟩ ?_
      | refine Need.go ⟨⟨rfl, rfl, rfl⟩, rfl⟩ ?_
      | (with_reducible refine Br.dec (fun h => ?_) (fun h => ?_) <;> first | (exfalso; omega) | skip)
      | (with_reducible refine Br.eqI (fun h => ?_) (fun h => ?_) <;> first | (exfalso; omega) | skip)
      | (with_reducible refine Br.neI (fun h => ?_) (fun h => ?_) <;> first | (exfalso; omega) | skip)
      | (with_reducible refine Br.eqS (fun h => ?_) (fun h => ?_) <;> first | (exfalso; omega) | skip)
      | (with_reducible refine Br.neS (fun h => ?_) (fun h => ?_) <;> first | (exfalso; omega) | skip)
      | (with_reducible refine Br.nd (fun h => ?_) (fun h => ?_) <;> first | (exfalso; omega) | skip)
      | refine Ar.i64 (by omega) (by omega) ?_
      | refine rWithout_n m.ch c1 n er hc1 (.v (x.mem m.ch)) (fun ρ w h => hx w (res_q h (i := 2) rfl)) (by omega) ?_
      | refine Need.go (by first | omega | decide | (simp <;> omega) | fail) ?_
      | refine Need.go (by first | (simp [Value.oneCell'] <;> omega) | fail) ?_
      | refine Need.go ⟨rfl, by omega, getD_one rfl rfl⟩ ?_
      | refine Need.go ⟨rfl, by omega, fun _ _ _ _ => rfl⟩ ?_
      | (refine Br.both (fun h => ?_) (fun h => ?_) <;> first | (exfalso; omega) | skip))
    all_goals (conv => whnf)
    refine ⟨_, _, ⟨rfl, rfl⟩, by simp, ⟨rfl, trivial⟩, ⟨[some 0, some 1, some 2], ⟨by decide, rfl⟩, ?_, ?_⟩⟩
    all_goals repeat' (first | exact leT_junk rfl | refine And.intro ?_ ?_ | exact trivial | exact .inl ⟨rfl, rfl⟩ | rfl | exact .inr ⟨_, rfl, rfl, rfl⟩ | exact ⟨_, rfl, trivial⟩ | exact ⟨_, rfl, rfl⟩ | exact ⟨_, rfl, ⟨rfl, rfl, rfl⟩, fun _ _ _ _ => rfl⟩ | exact ⟨_, rfl, ⟨rfl, rfl, .inl rfl⟩, rfl⟩ | exact ⟨_, rfl, ⟨rfl, rfl, .inr rfl⟩, rfl⟩ | exact ⟨_, rfl, ⟨rfl, rfl, rfl, rfl, rfl⟩, rfl⟩ | exact ⟨_, rfl, ⟨rfl, rfl⟩, fun _ => Iff.rfl⟩ | refine ⟨_, rfl, rfl, ?_⟩ | refine ⟨_, rfl, ⟨rfl, rfl, rfl⟩, ?_⟩)
/-- What it lies in behind a change of its chain and of those who are known. -/
abbrev rmasHn (y : RLoc) (m : RMasM) : List HE := [.blk 125 (rmasL y 3 m), .none, .res true y.Z y.Q, intE m.knows]
set_option maxRecDepth 100000 in
set_option maxHeartbeats 4000000 in
theorem rmOut_yes (x : RLoc) (m : RMasM) (hm : m.ok) (hx : x.ok m) (n : Int) (h1 : mayOut m n = true) (h6 : 0 < (withoutM m.ch n).1.mem.length) : Spec Try.prog 68 [.p 0 0, .v (.int .i64 n)] (rmasH x m) fun s H1 => ∃ y : RLoc, y.ok (outD m n) ∧ (∀ u, y.Q u → x.Q u) ∧ s = .v (.bool true) ∧ H1 = rmasHn y (outD m n) := by
  have hl := okCh_len hm.ch
  obtain ⟨c1, er, hc1⟩ : ∃ c1 er, withoutM m.ch n = (c1, er) := ⟨_, _, rfl⟩
  have hg := fun y => rmGoes y m hm n
  unfold mayOut at h1
  simp only [Bool.and_eq_true, beq_iff_eq] at h1
  rw [hc1] at h1 h6
  obtain ⟨he, hgo⟩ := h1
  simp only at he h6
  subst he
  have hg2 : ∀ y : RLoc, Spec Try.prog 74 [.p 0 0, .v (.int .i64 n)] (rmasH y m) fun s H1 => s = .v (.bool true) ∧ H1 = rmasH y m := fun y => by
    have := hg y
    rwa [hgo] at this
  have hod : outD m n = ⟨m.c, c1, m.heard, dropN m.knows n⟩ := by unfold outD; rw [hc1]
  rw [hod]
  have hk := hm.knows
  have hw := rWithoutN m.knows (by omega) n
  refine spec_x Try.func68 rfl 3 rfl rfl fun w0 U => ?_
  repeat' ((conv => whnf); first
      | (apply ord_one tabOK 1 11 [0, 1, 2, 3, 4, 5, 6, 7, 8, 9, 10, 11, 12, 13, 14] [0, 2, 3, 4, 5, 6, 7, 8, 9, 10, 11, 1, 12, 13, 14] (show _ = 15 from rfl) (by kernel_rfl) (by kernel_rfl) (by kernel_rfl) (by kernel_rfl))
      | refine QuiD.draw (draw_go tabOK (by kernel_rfl) ?_)
      | refine CutN.plain ?_
      | with_reducible refine Br.tt ?_
      | with_reducible refine Br.ff ?_
      | with_reducible refine Br.nt ?_
      | with_reducible refine Br.nf ?_
      | with_reducible refine Br.eeI ?_
      | with_reducible refine Br.nnI ?_
      | refine Br.yes (by decide) ?_
      | refine Br.no (by decide) ?_
      | refine Need.go rfl ?_
      | refine QuiD.quiet (by kernel_rfl) ?_
      | refine IdxN.lit ?_
      | refine draw_go tabOK (by kernel_rfl) ?_
      | refine Need.go ⟨rfl, rfl⟩ ?_
      | refine Need.go ⟨⟨rfl, rfl, rfl⟩, rfl⟩ ?_
      | (with_reducible refine Br.dec (fun h => ?_) (fun h => ?_) <;> first | (exfalso; omega) | skip)
      | (with_reducible refine Br.eqI (fun h => ?_) (fun h => ?_) <;> first | (exfalso; omega) | skip)
      | (with_reducible refine Br.neI (fun h => ?_) (fun h => ?_) <;> first | (exfalso; omega) | skip)
      | (with_reducible refine Br.eqS (fun h => ?_) (fun h => ?_) <;> first | (exfalso; omega) | skip)
      | (with_reducible refine Br.neS (fun h => ?_) (fun h => ?_) <;> first | (exfalso; omega) | skip)
      | (with_reducible refine Br.nd (fun h => ?_) (fun h => ?_) <;> first | (exfalso; omega) | skip)
      | refine Ar.i64 (by omega) (by omega) ?_
      | exact .inl ⟨rfl, rfl⟩
      | (refine call_sealA (f := 104) 2 (fun q => .tup [chS c1 (.v q), .v (.int .i64 0)]) (rWithout_n m.ch c1 n 0 hc1 (.v (x.mem m.ch)) (fun ρ w h => hx w (res_q h (i := 2) rfl)) (by omega) (by (conv => whnf); exact ⟨rfl, rfl⟩)) h6 (fun ρ ρ' => rfl) rfl (fun b off c => ?_))
      | (refine call_sp (f := 74) (hg2 ⟨x.qa, x.qn, x.qc, x.b, x.off, x.cap, fun z => x.Z z ∨ sliceZ (.slice (some ⟨b, off, none⟩) c1.mem.length c) z, fun u => x.Q u ∧ SliceV u (.slice (some ⟨b, off, none⟩) c1.mem.length c) 2 c1.mem.length (memF c1.mem)⟩) [0, 1, 2] (by decide) rfl ⟨rfl, rfl, rfl, trivial⟩ rfl ?_; rintro s H1 ⟨rfl, rfl⟩)
      | (refine seg_sp1 (f := 77) rfl (hw) [1] (by decide) rfl (fun _ => ⟨rfl, trivial⟩) rfl rfl ?_)
      | refine Need.go (by first | omega | decide | (simp <;> omega) | fail) ?_
      | refine Need.go (by first | (simp [Value.oneCell'] <;> omega) | fail) ?_
      | refine Need.go ⟨rfl, by omega, getD_one rfl rfl⟩ ?_
      | refine Need.go ⟨rfl, by omega, fun _ _ _ _ => rfl⟩ ?_
      | (refine Br.both (fun h => ?_) (fun h => ?_) <;> first | (exfalso; omega) | skip))
  all_goals (conv => whnf)
  all_goals
    refine ⟨_, _, ⟨⟨x.qa, x.qn, x.qc, b, off, c, fun z => x.Z z ∨ sliceZ (.slice (some ⟨b, off, none⟩) c1.mem.length c) z, fun u => x.Q u ∧ SliceV u (.slice (some ⟨b, off, none⟩) c1.mem.length c) 2 c1.mem.length (memF c1.mem)⟩, fun u h => h.2, fun u h => h.1, rfl, rfl⟩, by simp, ⟨rfl, trivial⟩, ⟨[some 0, some 1, some 2, some 5], ⟨by decide, rfl⟩, ?_, ?_⟩⟩
    all_goals repeat' (first | exact leT_junk rfl | refine And.intro ?_ ?_ | exact trivial | exact .inl ⟨rfl, rfl⟩ | rfl | exact .inr ⟨_, rfl, rfl, rfl⟩ | exact ⟨_, rfl, trivial⟩ | exact ⟨_, rfl, rfl⟩ | exact ⟨_, rfl, ⟨rfl, rfl, rfl⟩, fun _ _ _ _ => rfl⟩ | exact ⟨_, rfl, ⟨rfl, rfl, .inl rfl⟩, rfl⟩ | exact ⟨_, rfl, ⟨rfl, rfl, .inr rfl⟩, rfl⟩ | exact ⟨_, rfl, ⟨rfl, rfl, rfl, rfl, rfl⟩, rfl⟩ | exact ⟨_, rfl, ⟨rfl, rfl⟩, fun _ => Iff.rfl⟩ | refine ⟨_, rfl, rfl, ?_⟩ | refine ⟨_, rfl, ⟨rfl, rfl, rfl⟩, ?_⟩)
end Go.Proofs.Ytghfigeepnbjaaa
