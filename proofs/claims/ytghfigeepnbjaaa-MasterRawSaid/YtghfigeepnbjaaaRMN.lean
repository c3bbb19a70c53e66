/-
  The document's master: New. No condition.
-/
import Derived.Test.YtghfigeepnbjaaaRMO
import Derived.Test.YtghfigeepnbjaaaRMT
import Derived.Test.YtghfigeepnbjaaaMas7
namespace Go.Proofs.Ytghfigeepnbjaaa
open Go.RowKit
def knowsN (k : Nat) : List Int := (List.range k).map fun (i : Nat) => (i : Int)
theorem knowsN_len (k : Nat) : (knowsN k).length = k := by simp [knowsN]
theorem knowsN_succ (k : Nat) : knowsN (k + 1) = knowsN k ++ [(k : Int)] := by simp [knowsN, List.range_succ]
theorem knowsN_mem {k : Nat} {x : Int} : x ∈ knowsN k ↔ 0 ≤ x ∧ x < k := by
  unfold knowsN
  simp only [List.mem_map, List.mem_range]
  constructor
  · rintro ⟨i, hi, rfl⟩; omega
  · intro h; exact ⟨x.toNat, by omega, by omega⟩
def newR (c : CfgM) : RMasM := ⟨c, firstM c true, fun _ => 0, knowsN c.chain.toNat⟩
theorem newR_agr {c : CfgM} (h : okM c = true) : Agr (newMas c) (newR c) := by
  have hc := okM_chain1 h
  refine ⟨rfl, rfl, rfl, rfl, fun i hi => ?_, fun k hk => ?_⟩
  · show decide (i < c.chain.toNat) = true ↔ (i : Int) ∈ knowsN c.chain.toNat
    rw [knowsN_mem, decide_eq_true_iff]
    omega
  · have hk := knowsN_mem.1 (show k ∈ knowsN c.chain.toNat from hk)
    have hl : k.toNat < (firstM c true).mem.length := by rw [first_len]; omega
    have hg := first_get c k.toNat (by omega)
    refine ⟨(firstM c true).mem.getD k.toNat (0, 0), ?_, by rw [hg]; show ((k.toNat : Nat) : Int) = k; omega⟩
    rw [List.getD, List.getElem?_eq_getElem hl]
    exact List.getElem_mem hl
set_option maxRecDepth 100000 in
set_option maxHeartbeats 4000000 in
theorem refNew_yes (c : CfgM) (q : Value) (w : World) (hq : SliceV w q 1 c.quanta.length (intsF c.quanta)) (hok : okM c = true) (hl : c.quanta.length ≤ 1000) : Calls Try.prog 25 #[cfgV c q] w fun e w' =>
    ∃ (b : Nat) (x : RLoc) (Z : Nat → Prop), x.ok (newR c) ∧ e = .returned (.tuple #[.pointer (some ⟨b, 0, none⟩), .int .i64 0]) ∧ RMasQ b x (newR c) Z w' ∧ w.grownBy w' none ∧ ∀ x, Z x → w.heap.size ≤ x ∧ x < w'.heap.size := by
  have hq0 := hq
  obtain ⟨a, cap, rfl, h1, h2, hr⟩ := hq
  refine x_calls tabOK Try.func25 rfl [cfgS c (.v (.slice a c.quanta.length cap))] [] noLoc rfl rfl (rel0 w) ?_
  have hqs : ∀ (H : List HE) (ρ : Loc) (u : World), HRel w noU ρ H u → SliceV u ((SV.v (.slice a c.quanta.length cap)).den ρ) 1 c.quanta.length (intsF c.quanta) := fun H ρ u h => by
    have hfr := h.at.fr
    refine ⟨a, cap, rfl, h1, h2, fun hn => ?_⟩
    obtain ⟨b, off, rfl, hb, hc⟩ := hr hn
    refine ⟨b, off, rfl, Nat.lt_of_lt_of_le hb hfr.size, fun r c hr hc' => ?_⟩
    rw [← hc r c hr hc']
    exact World.cell?_of_block (w := w) (hfr.block b hb (fun h => h.elim))
  obtain ⟨hc1, hc6⟩ := okM_chain1 hok
  obtain ⟨x, hx⟩ : ∃ x, firstM c true = x := ⟨_, rfl⟩
  have hget : ∀ k, k < c.chain.toNat → x.mem.getD k (0, 0) = ((k : Int), 1) := fun k hk => hx ▸ first_get c k hk
  have hlen : x.mem.length = c.chain.toNat := hx ▸ first_len c
  repeat' ((conv => whnf); first
      | refine CutN.plain ?_
      | with_reducible refine Br.tt ?_
      | with_reducible refine Br.ff ?_
      | with_reducible refine Br.nt ?_
      | with_reducible refine Br.nf ?_
      | with_reducible refine Br.eeI ?_
      | with_reducible refine Br.nnI ?_
      | refine Br.yes (by decide) ?_
      | refine Br.no (by decide) ?_
      | refine Need.go rfl ?_
      | refine QuiD.quiet (by kernel_rfl) ?_
      | refine IdxN.lit ?_
      | refine draw_go tabOK (by kernel_rfl) ?_
      | refine Need.go ⟨rfl, rfl⟩ ?_
      | refine Need.go ⟨⟨rfl, rfl, rfl⟩, rfl⟩ ?_
      | (with_reducible refine Br.dec (fun h => ?_) (fun h => ?_) <;> first | (exfalso; omega) | skip)
      | (with_reducible refine Br.eqI (fun h => ?_) (fun h => ?_) <;> first | (exfalso; omega) | skip)
      | (with_reducible refine Br.neI (fun h => ?_) (fun h => ?_) <;> first | (exfalso; omega) | skip)
      | (with_reducible refine Br.eqS (fun h => ?_) (fun h => ?_) <;> first | (exfalso; omega) | skip)
      | (with_reducible refine Br.neS (fun h => ?_) (fun h => ?_) <;> first | (exfalso; omega) | skip)
      | (with_reducible refine Br.nd (fun h => ?_) (fun h => ?_) <;> first | (exfalso; omega) | skip)
      | refine Ar.i64 (by omega) (by omega) ?_
      | (refine call_res0 (f := 65) ?_ rfl; (conv => whnf); refine call_sealA (f := 65) 1 (fun q => .tup [chS x (.v q), .v (.int .i64 0)]) (rfirst_n c x true hok hx (.v (.slice a c.quanta.length cap)) (fun ρ u h => hqs _ ρ u h) hl (by (conv => whnf); exact ⟨rfl, rfl⟩)) (by omega) (fun ρ ρ' => rfl) rfl (fun bx off cx => ?_))
      | refine Need.go (by first | omega | decide | (simp <;> omega) | fail) ?_
      | refine Need.go (by first | (simp [Value.oneCell'] <;> omega) | fail) ?_
      | refine Need.go ⟨rfl, by omega, getD_one rfl rfl⟩ ?_
      | refine Need.go ⟨rfl, by omega, fun _ _ _ _ => rfl⟩ ?_
      | (refine Br.both (fun h => ?_) (fun h => ?_) <;> first | (exfalso; omega) | skip))
  all_goals (conv => whnf)
  let y : RLoc := ⟨a, c.quanta.length, cap, bx, off, cx, fun z => False ∨ sliceZ (.slice (some ⟨bx, off, none⟩) x.mem.length cx) z, fun u => True ∧ SliceV u (.slice (some ⟨bx, off, none⟩) x.mem.length cx) 2 x.mem.length (memF x.mem)⟩
  refine loop_up 20 (fun k : Nat => k ≤ x.mem.length) (fun k => x.mem.length - k) (fun k => [(7, .v (.int .i64 k))]) (fun k => [(4, .ent (.blk 125 (rmasL y 5 ⟨c, x, fun _ => 0, knowsN k⟩)))]) (fun k => [intE (knowsN k)]) 0 (Nat.zero_le _) (by
    (conv => whnf)
    refine ⟨[some 0, some 1, some 2, some 3, some 4, none], by decide, ?_, ?_⟩
    all_goals repeat' (first | exact .inr ⟨_, rfl, rfl, rfl⟩ | exact leT_junk rfl | refine And.intro ?_ ?_ | exact trivial | exact .inl ⟨rfl, rfl⟩ | rfl | exact .inr ⟨_, rfl, rfl, rfl⟩ | exact ⟨_, rfl, trivial⟩ | exact ⟨_, rfl, rfl⟩ | exact ⟨_, rfl, ⟨rfl, rfl, rfl⟩, fun _ _ _ _ => rfl⟩ | exact ⟨_, rfl, ⟨rfl, rfl, .inl rfl⟩, rfl⟩ | exact ⟨_, rfl, ⟨rfl, rfl, .inr rfl⟩, rfl⟩ | exact ⟨_, rfl, ⟨rfl, rfl, rfl, rfl, rfl⟩, rfl⟩ | exact ⟨_, rfl, ⟨rfl, rfl⟩, fun _ => Iff.rfl⟩ | refine ⟨_, rfl, rfl, ?_⟩ | refine ⟨_, rfl, ⟨rfl, rfl, rfl⟩, ?_⟩)) (fun k hk => ?_)
  by_cases hlt : k < x.mem.length
  · have hg := hget k (by omega)
    have hkl := knowsN_len k
    have hcell : ∀ u, SliceV u (y.mem x) 2 x.mem.length (memF x.mem) → ∀ j v, [Value.int .i64 k][j]? = some v → u.cell? ⟨bx, off + k * 2 + 0 + j, none⟩ = some v := fun u h => by
      have := mem_cell (y := y) h hlt
      rwa [hg] at this
    repeat' ((conv => whnf); first
        | (refine ord_to tabOK (.ho 0 [12] [0,1,2,3,4,5,6,7,8,9,10,11,12,13,14,15] .leaf) (show _ = 16 from rfl) (by kernel_rfl) (by kernel_rfl) 27 [] [(4, .ent (.blk 125 (rmasL y 6 ⟨c, x, fun _ => 0, knowsN (k + 1)⟩))), (5, .ent .none)] [intE (knowsN (k + 1))] ?_ ?_)
        | refine QuiD.draw (draw_go tabOK (by kernel_rfl) ?_)
        | refine CutN.plain ?_
        | with_reducible refine Br.tt ?_
        | with_reducible refine Br.ff ?_
        | with_reducible refine Br.nt ?_
        | with_reducible refine Br.nf ?_
        | with_reducible refine Br.eeI ?_
        | with_reducible refine Br.nnI ?_
        | refine Br.yes (by decide) ?_
        | refine Br.no (by decide) ?_
        | refine Need.go rfl ?_
        | refine QuiD.quiet (by kernel_rfl) ?_
        | refine IdxN.lit ?_
        | refine draw_go tabOK (by kernel_rfl) ?_
        | refine Need.go ⟨rfl, rfl⟩ ?_
        | refine Need.go ⟨⟨rfl, rfl, rfl⟩, rfl⟩ ?_
        | (with_reducible refine Br.dec (fun h => ?_) (fun h => ?_) <;> first | (exfalso; omega) | skip)
        | (with_reducible refine Br.eqI (fun h => ?_) (fun h => ?_) <;> first | (exfalso; omega) | skip)
        | (with_reducible refine Br.neI (fun h => ?_) (fun h => ?_) <;> first | (exfalso; omega) | skip)
        | (with_reducible refine Br.eqS (fun h => ?_) (fun h => ?_) <;> first | (exfalso; omega) | skip)
        | (with_reducible refine Br.neS (fun h => ?_) (fun h => ?_) <;> first | (exfalso; omega) | skip)
        | (with_reducible refine Br.nd (fun h => ?_) (fun h => ?_) <;> first | (exfalso; omega) | skip)
        | refine Ar.i64 (by omega) (by omega) ?_
        | refine And.intro ?_ ?_
        | (refine ⟨[some 0, some 1, some 2, some 3, some 4, some 5, some 7], ⟨by decide, rfl⟩, ?_, ?_⟩; all_goals (repeat' (first | exact .inl ⟨rfl, congrArg (SV.os _) (by rw [knowsN_succ]; exact List.length_append)⟩ | exact ⟨_, rfl, ⟨rfl, rfl, by rw [knowsN_succ]; simp⟩, fun r c hr hc => by rw [knowsN_succ]; exact intsF_snoc (knowsN k) k r c (by rw [knowsN_succ] at hr; simpa using hr) hc⟩ | exact leT_junk rfl | refine And.intro ?_ ?_ | exact trivial | exact .inl ⟨rfl, rfl⟩ | rfl | exact .inr ⟨_, rfl, rfl, rfl⟩ | exact ⟨_, rfl, trivial⟩ | exact ⟨_, rfl, rfl⟩ | exact ⟨_, rfl, ⟨rfl, rfl, rfl⟩, fun _ _ _ _ => rfl⟩ | exact ⟨_, rfl, ⟨rfl, rfl, .inl rfl⟩, rfl⟩ | exact ⟨_, rfl, ⟨rfl, rfl, .inr rfl⟩, rfl⟩ | exact ⟨_, rfl, ⟨rfl, rfl, rfl, rfl, rfl⟩, rfl⟩ | exact ⟨_, rfl, ⟨rfl, rfl⟩, fun _ => Iff.rfl⟩ | refine ⟨_, rfl, rfl, ?_⟩ | refine ⟨_, rfl, ⟨rfl, rfl, rfl⟩, ?_⟩)); done)
        | (refine LoadC.mk' [Value.int .i64 k] rfl rfl (fun w0 U ρ w h => hcell w ((h.ent 1 _ rfl).1.2)) ?_)
        | refine Need.go ⟨rfl, rfl, rfl, by omega, (Nat.mul_le_mul_right _ (show (knowsN k).length + 1 ≤ 1001 by omega)).trans (by decide)⟩ ?_
        | refine Need.go (by first | omega | decide | (simp <;> omega) | fail) ?_
        | refine Need.go (by first | (simp [Value.oneCell'] <;> omega) | fail) ?_
        | refine Need.go ⟨rfl, by omega, getD_one rfl rfl⟩ ?_
        | refine Need.go ⟨rfl, by omega, fun _ _ _ _ => rfl⟩ ?_
        | (refine Br.both (fun h => ?_) (fun h => ?_) <;> first | (exfalso; omega) | skip))
    all_goals (conv => whnf)
    refine ⟨k + 1, by omega, by omega, ?_⟩
    (conv => whnf)
    refine ⟨[some 0, some 1, some 2, some 3, some 4, some 6], by decide, ?_, ?_⟩
    all_goals repeat' (first | exact leT_junk rfl | refine And.intro ?_ ?_ | exact trivial | exact .inl ⟨rfl, rfl⟩ | rfl | exact .inr ⟨_, rfl, rfl, rfl⟩ | exact ⟨_, rfl, trivial⟩ | exact ⟨_, rfl, rfl⟩ | exact ⟨_, rfl, ⟨rfl, rfl, rfl⟩, fun _ _ _ _ => rfl⟩ | exact ⟨_, rfl, ⟨rfl, rfl, .inl rfl⟩, rfl⟩ | exact ⟨_, rfl, ⟨rfl, rfl, .inr rfl⟩, rfl⟩ | exact ⟨_, rfl, ⟨rfl, rfl, rfl, rfl, rfl⟩, rfl⟩ | exact ⟨_, rfl, ⟨rfl, rfl⟩, fun _ => Iff.rfl⟩ | refine ⟨_, rfl, rfl, ?_⟩ | refine ⟨_, rfl, ⟨rfl, rfl, rfl⟩, ?_⟩)
  · obtain rfl : k = x.mem.length := by omega
    repeat' ((conv => whnf); first
        | refine CutN.plain ?_
        | with_reducible refine Br.tt ?_
        | with_reducible refine Br.ff ?_
        | with_reducible refine Br.nt ?_
        | with_reducible refine Br.nf ?_
        | with_reducible refine Br.eeI ?_
        | with_reducible refine Br.nnI ?_
        | refine Br.yes (by decide) ?_
        | refine Br.no (by decide) ?_
        | refine Need.go rfl ?_
        | refine QuiD.quiet (by kernel_rfl) ?_
        | refine IdxN.lit ?_
        | refine draw_go tabOK (by kernel_rfl) ?_
        | refine Need.go ⟨rfl, rfl⟩ ?_
        | refine Need.go ⟨⟨rfl, rfl, rfl⟩, rfl⟩ ?_
        | (with_reducible refine Br.dec (fun h => ?_) (fun h => ?_) <;> first | (exfalso; omega) | skip)
        | (with_reducible refine Br.eqI (fun h => ?_) (fun h => ?_) <;> first | (exfalso; omega) | skip)
        | (with_reducible refine Br.neI (fun h => ?_) (fun h => ?_) <;> first | (exfalso; omega) | skip)
        | (with_reducible refine Br.eqS (fun h => ?_) (fun h => ?_) <;> first | (exfalso; omega) | skip)
        | (with_reducible refine Br.neS (fun h => ?_) (fun h => ?_) <;> first | (exfalso; omega) | skip)
        | (with_reducible refine Br.nd (fun h => ?_) (fun h => ?_) <;> first | (exfalso; omega) | skip)
        | refine Ar.i64 (by omega) (by omega) ?_
        | refine Need.go (by first | omega | decide | (simp <;> omega) | fail) ?_
        | refine Need.go (by first | (simp [Value.oneCell'] <;> omega) | fail) ?_
        | refine Need.go ⟨rfl, by omega, getD_one rfl rfl⟩ ?_
        | refine Need.go ⟨rfl, by omega, fun _ _ _ _ => rfl⟩ ?_
        | (refine Br.both (fun h => ?_) (fun h => ?_) <;> first | (exfalso; omega) | skip))
    all_goals (conv => whnf)
    intro ρ' w' hr'
    obtain ⟨b, hb, _⟩ := hr'.at.blk (i := 4) rfl
    have hR : newR c = ⟨c, x, fun _ => 0, knowsN x.mem.length⟩ := by unfold newR; rw [hx, hlen]
    refine ⟨b, y, footOf ρ' _ [4, 5, 1], ?_, by simp [SV.den, SV.denL, atB, hb], ?_, fr_none hr'.at.fr, fun z hz => ⟨(footOf_own hr' hz).elim id (fun h => h.elim), footOf_lt hr' hz⟩⟩
    · rw [hR]
      exact fun u hu => hu.2
    · rw [hR]
      exact hr'.seal (H0 := rmasH y ⟨c, x, fun _ => 0, knowsN x.mem.length⟩) [4, 5, 1] (by decide) rfl ⟨rfl, rfl, rfl, trivial⟩ hb (Nat.succ_pos 2)
set_option maxRecDepth 100000 in
set_option maxHeartbeats 1000000 in
theorem refNew_no (c : CfgM) (q : Value) (w : World) (hq : SliceV w q 1 c.quanta.length (intsF c.quanta)) (hok : okM c = false) (hl : c.quanta.length ≤ 1000) : Calls Try.prog 25 #[cfgV c q] w fun e w' => e = .returned (.tuple #[.pointer none, .int .i64 2]) ∧ w.grownBy w' none := by
  obtain ⟨a, cap, rfl, h1, h2, hr⟩ := hq
  refine x_calls tabOK Try.func25 rfl [cfgS c (.rs 0 c.quanta.length cap)] _ _ rfl rfl (relR1 hr) ?_
  obtain ⟨x, hx⟩ : ∃ x, firstM c false = x := ⟨_, rfl⟩
  repeat' ((conv => whnf); first
      | refine CutN.plain ?_
      | with_reducible refine Br.tt ?_
      | with_reducible refine Br.ff ?_
      | with_reducible refine Br.nt ?_
      | with_reducible refine Br.nf ?_
      | with_reducible refine Br.eeI ?_
      | with_reducible refine Br.nnI ?_
      | refine Br.yes (by decide) ?_
      | refine Br.no (by decide) ?_
      | refine Need.go rfl ?_
      | refine QuiD.quiet (by kernel_rfl) ?_
      | refine IdxN.lit ?_
      | refine draw_go tabOK (by kernel_rfl) ?_
      | refine Need.go ⟨rfl, rfl⟩ ?_
      | refine Need.go ⟨⟨rfl, rfl, rfl⟩, rfl⟩ ?_
      | (with_reducible refine Br.dec (fun h => ?_) (fun h => ?_) <;> first | (exfalso; omega) | skip)
      | (with_reducible refine Br.eqI (fun h => ?_) (fun h => ?_) <;> first | (exfalso; omega) | skip)
      | (with_reducible refine Br.neI (fun h => ?_) (fun h => ?_) <;> first | (exfalso; omega) | skip)
      | (with_reducible refine Br.eqS (fun h => ?_) (fun h => ?_) <;> first | (exfalso; omega) | skip)
      | (with_reducible refine Br.neS (fun h => ?_) (fun h => ?_) <;> first | (exfalso; omega) | skip)
      | (with_reducible refine Br.nd (fun h => ?_) (fun h => ?_) <;> first | (exfalso; omega) | skip)
      | refine Ar.i64 (by omega) (by omega) ?_
      | (refine rfirst_n c x false hok hx (.rs 0 c.quanta.length cap) ?_ hl ?_; exact fun ρ w h => sl_rs h (i := 0) rfl (Nat.le_refl _) h1 h2)
      | refine Need.go (by first | omega | decide | (simp <;> omega) | fail) ?_
      | refine Need.go (by first | (simp [Value.oneCell'] <;> omega) | fail) ?_
      | refine Need.go ⟨rfl, by omega, getD_one rfl rfl⟩ ?_
      | refine Need.go ⟨rfl, by omega, fun _ _ _ _ => rfl⟩ ?_
      | (refine Br.both (fun h => ?_) (fun h => ?_) <;> first | (exfalso; omega) | skip))
  all_goals (conv => whnf)
  all_goals exact ret_pure (fun _ => rfl)
section
variable {w0 : World} {U : Nat → Prop}
structure RNew (c : CfgM) where
  b : Nat
  x : RLoc
  ok : x.ok (newR c)
theorem ref_new {H : List HE} {K : SV → List HE → Prop} (c : CfgM) (q : SV) (hq : ∀ ρ w, HRel w0 U ρ H w → SliceV w (q.den ρ) 1 c.quanta.length (intsF c.quanta)) (hok : okM c = true) (hl : c.quanta.length ≤ 1000)
    (hK : ∀ b x Z, x.ok (newR c) → appK H (.res true Z (RMasQ b x (newR c) Z)) fun H' => K (.tup [masP b, .v (.int .i64 0)]) H') : CallN Try.prog w0 U 25 [cfgS c q] H K :=
  call_new (fun r : RNew c => .tup [masP r.b, .v (.int .i64 0)]) (fun r Z => RMasQ r.b r.x (newR c) Z) (fun _ _ => rfl) (fun ρ w hr => (refNew_yes c (q.den ρ) w (hq ρ w hr) hok hl).mono fun e w' ⟨b, x, Z, h0, h1, h2, h3, h4⟩ => ⟨⟨b, x, h0⟩, Z, h1, h2, h3, h4⟩) (fun _ => RMasQ.st) (fun r Z => hK r.b r.x Z r.ok)
end
end Go.Proofs.Ytghfigeepnbjaaa
