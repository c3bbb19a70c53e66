/-
  What is sent, held against the same: SameChain, SameFrame, Sends. No condition.
-/
import Derived.Test.YtghfigeepnbjaaaGreatP7
import Derived.Test.YtghfigeepnbjaaaGreatP6
namespace Go.Proofs.YtghfigeepnbjaaaGreat
open Go.RowKit
/-- A fact about blocks that are read alone. -/
theorem HRel.addRes {w0 w : World} {ρ : Loc} {H : List HE} {Z : Nat → Prop} {Q : World → Prop} (h : HRel w0 noU ρ H w) (hn : ∀ e ∈ H, ¬ e.wr) (hQ : Q w) (hZ : ∀ b, Z b → b < w.heap.size) (hst : ∀ w1 w2 : World, (∀ b, Z b → w2.heap[b]? = w1.heap[b]?) → Q w1 → Q w2) : HRel w0 noU ρ (H ++ [.res false Z Q]) w := fun ρ' hs =>
  addHF (h ρ' (hs.mono (by simp))) ⟨hQ, hZ, hst⟩ (fun hw => by cases hw) (fun i d hi _ hw => hw.elim (fun h => by cases h) (fun h => absurd h (hn d (List.mem_of_getElem? hi))))
theorem res_at {w0 w : World} {U : Nat → Prop} {ρ : Loc} {H : List HE} {i : Nat} {wr : Bool} {Z : Nat → Prop} {Q : World → Prop} (h : HRel w0 U ρ H w) (hi : getH H i = .res wr Z Q) : Q w := (h.at.ent i _ (getH_res hi)).1
/-- The blocks of the members' slices. -/
def sndZb (l : List SndM) (p : Nat → Value) (b : Nat) : Prop := ∃ r, r < l.length ∧ 0 < (l.getD r sndZ).fr.ch.mem.length ∧ sliceZ (p r) b
theorem sndQ_lt {l : List SndM} {p : Nat → Value} {w : World} (h : sndQ l p w) : ∀ b, sndZb l p b → b < w.heap.size := by
  rintro b ⟨r, hr, h0, a, n, c, hq, rfl⟩
  obtain ⟨a', cap, hq', _, _, hc⟩ := h r hr
  rw [hq] at hq'
  injection hq' with h1 h2 _
  obtain ⟨b, off, hb, hlt, _⟩ := hc h0
  rw [← h1] at hb
  injection hb with hb
  rw [hb]
  exact hlt
theorem sndQ_st {l : List SndM} {p : Nat → Value} {w1 w2 : World} (hs : ∀ b, sndZb l p b → w2.heap[b]? = w1.heap[b]?) (h : sndQ l p w1) : sndQ l p w2 := fun r hr => by
  have hq := h r hr
  by_cases h0 : 0 < (l.getD r sndZ).fr.ch.mem.length
  · exact sliceV_st (fun b hb => hs b ⟨r, hr, h0, hb⟩) hq
  · obtain ⟨a, cap, e, h1, h2, _⟩ := hq
    exact ⟨a, cap, e, h1, h2, fun h => absurd h h0⟩
theorem sameCh_self (c : ChM) : sameCh c c = true := by simp [sameCh]
theorem sameCh19_ne {a b : ChM} (h : a.mem ≠ b.mem) : sameCh a b = false := by simp [sameCh, h]
set_option maxRecDepth 100000 in
set_option maxHeartbeats 1000000 in
theorem sameCh19_any (a b : ChM) (p q : Value) (w : World) (hp : ChSl w p a) (hq : ChSl w q b) (hl : a.mem.length ≤ 1000000) :
    Calls Tryz.prog 60 #[chV a p, chV b q] w fun e w' => e = .returned (.bool (sameCh a b)) ∧ w.grownBy w' none := by
  obtain ⟨d, cap, rfl, h1, h2, hr⟩ := hp
  obtain ⟨d2, cap2, rfl, h3, h4, hr2⟩ := hq
  refine x_calls tabOK Tryz.func60 rfl [chS a (.rs 0 a.mem.length cap), chS b (.rs 1 b.mem.length cap2)] _ _ rfl rfl (relR2 hr hr2) ?_
  repeat' ((conv => whnf); first
      | refine CutN.plain ?_
      | refine AppN.own ?_
      | refine Need.go rfl ?_
      | refine QuiD.quiet (by kernel_rfl) ?_
      | refine IdxN.lit ?_
      | refine draw_go tabOK (by kernel_rfl) ?_
      | refine Need.go ⟨rfl, rfl⟩ ?_
      | refine Need.go ⟨⟨rfl, rfl, rfl⟩, rfl⟩ ?_
      | with_reducible refine Br.dec (fun h => ?_) (fun h => ?_)
      | with_reducible refine Br.eqI (fun h => ?_) (fun h => ?_)
      | with_reducible refine Br.neI (fun h => ?_) (fun h => ?_)
      | with_reducible refine Br.eqS (fun h => ?_) (fun h => ?_)
      | with_reducible refine Br.neS (fun h => ?_) (fun h => ?_)
      | with_reducible refine Br.nd (fun h => ?_) (fun h => ?_)
      | refine Ar.i64 (by omega) (by omega) ?_
      | refine Need.go (by first | omega | decide | (simp <;> omega) | fail) ?_
      | refine Need.go (by first | (simp [Value.oneCell'] <;> omega) | fail) ?_
      | refine Need.go ⟨rfl, by omega, getD_one rfl rfl⟩ ?_
      | refine Need.go ⟨rfl, by omega, fun _ _ _ _ => rfl⟩ ?_
      | refine Br.both (fun h => ?_) (fun h => ?_))
  all_goals (conv => whnf)
  any_goals (refine ret_pure (fun _ => ?_); first | (rw [sameCh19_ne (fun e => h (by rw [e]))]; rfl) | simp_all [SV.den, sameCh])
  · have hl2 : a.mem.length = b.mem.length := by omega
    refine loop_up 6 (fun k : Nat => k ≤ a.mem.length ∧ ∀ j, j < k → a.mem.getD j (0, 0) = b.mem.getD j (0, 0)) (fun k => a.mem.length - k) (fun k => [(5, .v (.int .i64 k))]) (fun k => []) (fun k => []) 0 ⟨by omega, fun j h => absurd h (by omega)⟩ (by
      (conv => whnf)
      refine ⟨[some 0, some 1, some 2, some 3], by decide, ?_, ?_⟩
      all_goals repeat' (first | exact leT_junk rfl | refine And.intro ?_ ?_ | exact trivial | exact .inl ⟨rfl, rfl⟩ | rfl | exact .inr ⟨_, rfl, rfl, rfl⟩ | exact ⟨_, rfl, trivial⟩ | exact ⟨_, rfl, rfl⟩ | exact ⟨_, rfl, ⟨rfl, rfl, rfl⟩, fun _ _ _ _ => rfl⟩ | exact ⟨_, rfl, ⟨rfl, rfl, .inl rfl⟩, rfl⟩ | exact ⟨_, rfl, ⟨rfl, rfl, .inr rfl⟩, rfl⟩ | exact ⟨_, rfl, ⟨rfl, rfl, rfl, rfl, rfl⟩, rfl⟩ | exact ⟨_, rfl, ⟨rfl, rfl⟩, fun _ => Iff.rfl⟩ | refine ⟨_, rfl, rfl, ?_⟩ | refine ⟨_, rfl, ⟨rfl, rfl, rfl⟩, ?_⟩)) (fun k hk => ?_)
    obtain ⟨hk, hs⟩ := hk
    repeat' ((conv => whnf); first
        | refine CutN.plain ?_
        | refine AppN.own ?_
        | refine Need.go rfl ?_
        | refine QuiD.quiet (by kernel_rfl) ?_
        | refine IdxN.lit ?_
        | refine draw_go tabOK (by kernel_rfl) ?_
        | refine Need.go ⟨rfl, rfl⟩ ?_
        | refine Need.go ⟨⟨rfl, rfl, rfl⟩, rfl⟩ ?_
        | with_reducible refine Br.dec (fun h => ?_) (fun h => ?_)
        | with_reducible refine Br.eqI (fun h => ?_) (fun h => ?_)
        | with_reducible refine Br.neI (fun h => ?_) (fun h => ?_)
        | with_reducible refine Br.eqS (fun h => ?_) (fun h => ?_)
        | with_reducible refine Br.neS (fun h => ?_) (fun h => ?_)
        | with_reducible refine Br.nd (fun h => ?_) (fun h => ?_)
        | refine Ar.i64 (by omega) (by omega) ?_
        | refine Need.go (by first | omega | decide | (simp <;> omega) | fail) ?_
        | refine Need.go (by first | (simp [Value.oneCell'] <;> omega) | fail) ?_
        | refine Need.go ⟨rfl, by omega, getD_one rfl rfl⟩ ?_
        | refine Need.go ⟨rfl, by omega, fun _ _ _ _ => rfl⟩ ?_
        | refine Br.both (fun h => ?_) (fun h => ?_))
    all_goals (conv => whnf)
    · refine ret_pure (fun _ => ?_)
      rw [sameCh19_ne (fun e => by rw [e] at h; simp at h)]
      rfl
    · have hk2 : k < a.mem.length := by omega
      refine ⟨k + 1, ⟨by omega, fun j hj => ?_⟩, by omega, ?_⟩
      · rcases Nat.lt_or_ge j k with e | e
        · exact hs j e
        · have : j = k := by omega
          subst this
          simp only [Int.toNat_natCast, Bool.not_eq_false', Bool.and_eq_true, beq_iff_eq, and_true] at h
          exact Prod.ext h.1 h.2
      · (conv => whnf)
        refine ⟨[some 0, some 1, some 2, some 3], by decide, ?_, ?_⟩
        all_goals repeat' (first | exact leT_junk rfl | refine And.intro ?_ ?_ | exact trivial | exact .inl ⟨rfl, rfl⟩ | rfl | exact .inr ⟨_, rfl, rfl, rfl⟩ | exact ⟨_, rfl, trivial⟩ | exact ⟨_, rfl, rfl⟩ | exact ⟨_, rfl, ⟨rfl, rfl, rfl⟩, fun _ _ _ _ => rfl⟩ | exact ⟨_, rfl, ⟨rfl, rfl, .inl rfl⟩, rfl⟩ | exact ⟨_, rfl, ⟨rfl, rfl, .inr rfl⟩, rfl⟩ | exact ⟨_, rfl, ⟨rfl, rfl, rfl, rfl, rfl⟩, rfl⟩ | exact ⟨_, rfl, ⟨rfl, rfl⟩, fun _ => Iff.rfl⟩ | refine ⟨_, rfl, rfl, ?_⟩ | refine ⟨_, rfl, ⟨rfl, rfl, rfl⟩, ?_⟩)
    · have e : a.mem = b.mem := mem_ext hl2 (fun j hj => hs j (by omega))
      refine ret_pure (fun _ => ?_)
      simp_all [SV.den, sameCh]
/-- A frame is as itself, wherever its members lie. -/
def frV (f : FrM) (q : Value) : Value := .agg (frC f q).toArray
set_option maxRecDepth 100000 in
set_option maxHeartbeats 4000000 in
theorem sameFrame_any (x : FrM) (p q : Value) (w : World) (hp : ChSl w p x.ch) (hq : ChSl w q x.ch) (hl : x.ch.mem.length ≤ 1000000) :
    Calls Tryz.prog 37 #[frV x p, frV x q] w fun e w' => e = .returned (.bool true) ∧ w.grownBy w' none := by
  obtain ⟨d, cap, rfl, h1, h2, hr⟩ := hp
  obtain ⟨d2, cap2, rfl, h3, h4, hr2⟩ := hq
  refine x_calls tabOK Tryz.func37 rfl [frS x (.rs 0 x.ch.mem.length cap), frS x (.rs 1 x.ch.mem.length cap2)] _ _ rfl rfl (relR2 hr hr2) ?_
  repeat' ((conv => whnf); first
      | refine CutN.plain ?_
      | with_reducible refine Br.tt ?_
      | with_reducible refine Br.ff ?_
      | with_reducible refine Br.nt ?_
      | with_reducible refine Br.nf ?_
      | with_reducible refine Br.eeI ?_
      | with_reducible refine Br.nnI ?_
      | refine Br.yes (by decide) ?_
      | refine Br.no (by decide) ?_
      | refine AppN.own ?_
      | refine Need.go rfl ?_
      | refine QuiD.quiet (by kernel_rfl) ?_
      | refine IdxN.lit ?_
      | refine draw_go tabOK (by kernel_rfl) ?_
      | refine Need.go ⟨rfl, rfl⟩ ?_
      | refine Need.go ⟨⟨rfl, rfl, rfl⟩, rfl⟩ ?_
      | (with_reducible refine Br.dec (fun h => ?_) (fun h => ?_) <;> first | (exfalso; omega) | skip)
      | (with_reducible refine Br.eqI (fun h => ?_) (fun h => ?_) <;> first | (exfalso; omega) | skip)
      | (with_reducible refine Br.neI (fun h => ?_) (fun h => ?_) <;> first | (exfalso; omega) | skip)
      | (with_reducible refine Br.eqS (fun h => ?_) (fun h => ?_) <;> first | (exfalso; omega) | skip)
      | (with_reducible refine Br.neS (fun h => ?_) (fun h => ?_) <;> first | (exfalso; omega) | skip)
      | (with_reducible refine Br.nd (fun h => ?_) (fun h => ?_) <;> first | (exfalso; omega) | skip)
      | refine Ar.i64 (by omega) (by omega) ?_
      | refine Br.no (by first | (simp; done) | fail) ?_
      | refine Br.yes (by first | (simp; done) | fail) ?_
      | (refine call_mem (f := 60) (args := [chS x.ch (.rs 0 x.ch.mem.length cap), chS x.ch (.rs 1 x.ch.mem.length cap2)]) (V := .bool true) ?_ ?_; exact fun ρ w h => (by have := sameCh19_any x.ch x.ch _ _ w (sl_rs h (i := 0) rfl (Nat.le_refl _) h1 h2) (sl_rs h (i := 1) rfl (Nat.le_refl _) h3 h4) hl; rwa [sameCh_self] at this))
      | (refine quiet_mem (f := 60) (args := [chS x.ch (.rs 0 x.ch.mem.length cap), chS x.ch (.rs 1 x.ch.mem.length cap2)]) (V := .bool true) ?_ ?_; exact fun ρ w h => (by have := sameCh19_any x.ch x.ch _ _ w (sl_rs h (i := 0) rfl (Nat.le_refl _) h1 h2) (sl_rs h (i := 1) rfl (Nat.le_refl _) h3 h4) hl; rwa [sameCh_self] at this))
      | (refine seg_mem (f := 60) (args := [chS x.ch (.rs 0 x.ch.mem.length cap), chS x.ch (.rs 1 x.ch.mem.length cap2)]) (V := .bool true) ?_ ?_; exact fun ρ w h => (by have := sameCh19_any x.ch x.ch _ _ w (sl_rs h (i := 0) rfl (Nat.le_refl _) h1 h2) (sl_rs h (i := 1) rfl (Nat.le_refl _) h3 h4) hl; rwa [sameCh_self] at this))
      | refine Need.go (by first | omega | decide | (simp <;> omega) | fail) ?_
      | refine Need.go (by first | (simp [Value.oneCell'] <;> omega) | fail) ?_
      | refine Need.go ⟨rfl, by omega, getD_one rfl rfl⟩ ?_
      | refine Need.go ⟨rfl, by omega, fun _ _ _ _ => rfl⟩ ?_
      | (refine Br.both (fun h => ?_) (fun h => ?_) <;> first | (exfalso; omega) | skip))
  all_goals (conv => whnf)
  all_goals
    refine ret_pure (fun _ => ?_)
    simp [SV.den]
set_option maxRecDepth 100000 in
set_option maxHeartbeats 4000000 in
theorem sends_any (l : List SndM) (p q : Nat → Value) (a b : Value) (w : World) (ha : SliceV w a 30 l.length (sndF l p)) (hb : SliceV w b 30 l.length (sndF l q)) (hp : sndQ l p w) (hq : sndQ l q w) (hl : ∀ r, r < l.length → (l.getD r sndZ).fr.ch.mem.length ≤ 1000000) :
    Calls Tryz.prog 11 #[a, b] w fun e w' => e = .returned (.bool true) ∧ w.grownBy w' none := by
  obtain ⟨d, cap, rfl, h1, h2, hr⟩ := ha
  obtain ⟨d2, cap2, rfl, h3, h4, hr2⟩ := hb
  have hrel := (relR2 hr hr2).addRes (Z := fun b => sndZb l p b ∨ sndZb l q b) (Q := fun u => sndQ l p u ∧ sndQ l q u) (fun e he => by
    simp only [List.mem_cons, List.not_mem_nil, or_false] at he
    rcases he with rfl | rfl <;> exact fun h => h) ⟨hp, hq⟩ (fun b h => h.elim (sndQ_lt hp b) (sndQ_lt hq b)) (fun w1 w2 hs h => ⟨sndQ_st (fun b hb => hs b (.inl hb)) h.1, sndQ_st (fun b hb => hs b (.inr hb)) h.2⟩)
  refine x_calls tabOK Tryz.func11 rfl [.rs 0 l.length cap, .rs 1 l.length cap2] _ _ rfl rfl hrel ?_
  repeat' ((conv => whnf); first
      | refine CutN.plain ?_
      | with_reducible refine Br.tt ?_
      | with_reducible refine Br.ff ?_
      | with_reducible refine Br.nt ?_
      | with_reducible refine Br.nf ?_
      | with_reducible refine Br.eeI ?_
      | with_reducible refine Br.nnI ?_
      | refine Br.yes (by decide) ?_
      | refine Br.no (by decide) ?_
      | refine AppN.own ?_
      | refine Need.go rfl ?_
      | refine QuiD.quiet (by kernel_rfl) ?_
      | refine IdxN.lit ?_
      | refine draw_go tabOK (by kernel_rfl) ?_
      | refine Need.go ⟨rfl, rfl⟩ ?_
      | refine Need.go ⟨⟨rfl, rfl, rfl⟩, rfl⟩ ?_
      | (with_reducible refine Br.dec (fun h => ?_) (fun h => ?_) <;> first | (exfalso; omega) | skip)
      | (with_reducible refine Br.eqI (fun h => ?_) (fun h => ?_) <;> first | (exfalso; omega) | skip)
      | (with_reducible refine Br.neI (fun h => ?_) (fun h => ?_) <;> first | (exfalso; omega) | skip)
      | (with_reducible refine Br.eqS (fun h => ?_) (fun h => ?_) <;> first | (exfalso; omega) | skip)
      | (with_reducible refine Br.neS (fun h => ?_) (fun h => ?_) <;> first | (exfalso; omega) | skip)
      | (with_reducible refine Br.nd (fun h => ?_) (fun h => ?_) <;> first | (exfalso; omega) | skip)
      | refine Ar.i64 (by omega) (by omega) ?_
      | refine Br.no (by first | (simp; done) | fail) ?_
      | refine Need.go (by first | omega | decide | (simp <;> omega) | fail) ?_
      | refine Need.go (by first | (simp [Value.oneCell'] <;> omega) | fail) ?_
      | refine Need.go ⟨rfl, by omega, getD_one rfl rfl⟩ ?_
      | refine Need.go ⟨rfl, by omega, fun _ _ _ _ => rfl⟩ ?_
      | (refine Br.both (fun h => ?_) (fun h => ?_) <;> first | (exfalso; omega) | skip))
  all_goals (conv => whnf)
  refine loop_up 6 (fun k : Nat => k ≤ l.length) (fun k => l.length - k) (fun k => [(5, .v (.int .i64 k))]) (fun k => []) (fun k => []) 0 (Nat.zero_le _) (by
    (conv => whnf)
    refine ⟨[some 0, some 1, some 2], by decide, ?_, ?_⟩
    all_goals repeat' (first | exact leT_junk rfl | refine And.intro ?_ ?_ | exact trivial | exact .inl ⟨rfl, rfl⟩ | rfl | exact .inr ⟨_, rfl, rfl, rfl⟩ | exact ⟨_, rfl, trivial⟩ | exact ⟨_, rfl, rfl⟩ | exact ⟨_, rfl, ⟨rfl, rfl, rfl⟩, fun _ _ _ _ => rfl⟩ | exact ⟨_, rfl, ⟨rfl, rfl, .inl rfl⟩, rfl⟩ | exact ⟨_, rfl, ⟨rfl, rfl, .inr rfl⟩, rfl⟩ | exact ⟨_, rfl, ⟨rfl, rfl, rfl, rfl, rfl⟩, rfl⟩ | exact ⟨_, rfl, ⟨rfl, rfl⟩, fun _ => Iff.rfl⟩ | refine ⟨_, rfl, rfl, ?_⟩ | refine ⟨_, rfl, ⟨rfl, rfl, rfl⟩, ?_⟩)) (fun k hk => ?_)
  by_cases hlt : k < l.length
  · have hlk := hl k hlt
    have h2' := h2
    unfold maxLen at h2'
    repeat' ((conv => whnf); first
        | refine CutN.plain ?_
        | with_reducible refine Br.tt ?_
        | with_reducible refine Br.ff ?_
        | with_reducible refine Br.nt ?_
        | with_reducible refine Br.nf ?_
        | with_reducible refine Br.eeI ?_
        | with_reducible refine Br.nnI ?_
        | refine Br.yes (by decide) ?_
        | refine Br.no (by decide) ?_
        | refine AppN.own ?_
        | refine Need.go rfl ?_
        | refine QuiD.quiet (by kernel_rfl) ?_
        | refine IdxN.lit ?_
        | refine draw_go tabOK (by kernel_rfl) ?_
        | refine Need.go ⟨rfl, rfl⟩ ?_
        | refine Need.go ⟨⟨rfl, rfl, rfl⟩, rfl⟩ ?_
        | (with_reducible refine Br.dec (fun h => ?_) (fun h => ?_) <;> first | (exfalso; omega) | skip)
        | (with_reducible refine Br.eqI (fun h => ?_) (fun h => ?_) <;> first | (exfalso; omega) | skip)
        | (with_reducible refine Br.neI (fun h => ?_) (fun h => ?_) <;> first | (exfalso; omega) | skip)
        | (with_reducible refine Br.eqS (fun h => ?_) (fun h => ?_) <;> first | (exfalso; omega) | skip)
        | (with_reducible refine Br.neS (fun h => ?_) (fun h => ?_) <;> first | (exfalso; omega) | skip)
        | (with_reducible refine Br.nd (fun h => ?_) (fun h => ?_) <;> first | (exfalso; omega) | skip)
        | refine Ar.i64 (by omega) (by omega) ?_
        | refine Br.no (by first | (simp; done) | fail) ?_
        | (refine call_mem (f := 37) (args := [frS (l.getD (Int.toNat (k : Int)) sndZ).fr (.v (p (Int.toNat (k : Int)))), frS (l.getD (Int.toNat (k : Int)) sndZ).fr (.v (q (Int.toNat (k : Int))))]) (V := .bool true) ?_ ?_; exact fun ρ w h => sameFrame_any _ _ _ w ((res_at h (i := 2) rfl).1 k hlt) ((res_at h (i := 2) rfl).2 k hlt) hlk)
        | (refine quiet_mem (f := 37) (args := [frS (l.getD (Int.toNat (k : Int)) sndZ).fr (.v (p (Int.toNat (k : Int)))), frS (l.getD (Int.toNat (k : Int)) sndZ).fr (.v (q (Int.toNat (k : Int))))]) (V := .bool true) ?_ ?_; exact fun ρ w h => sameFrame_any _ _ _ w ((res_at h (i := 2) rfl).1 k hlt) ((res_at h (i := 2) rfl).2 k hlt) hlk)
        | (refine seg_mem (f := 37) (args := [frS (l.getD (Int.toNat (k : Int)) sndZ).fr (.v (p (Int.toNat (k : Int)))), frS (l.getD (Int.toNat (k : Int)) sndZ).fr (.v (q (Int.toNat (k : Int))))]) (V := .bool true) ?_ ?_; exact fun ρ w h => sameFrame_any _ _ _ w ((res_at h (i := 2) rfl).1 k hlt) ((res_at h (i := 2) rfl).2 k hlt) hlk)
        | refine Need.go (by first | omega | decide | (simp <;> omega) | fail) ?_
        | refine Need.go (by first | (simp [Value.oneCell'] <;> omega) | fail) ?_
        | refine Need.go ⟨rfl, by omega, getD_one rfl rfl⟩ ?_
        | refine Need.go ⟨rfl, by omega, fun _ _ _ _ => rfl⟩ ?_
        | (refine Br.both (fun h => ?_) (fun h => ?_) <;> first | (exfalso; omega) | skip))
    all_goals (conv => whnf)
    refine ⟨k + 1, by omega, by omega, ?_⟩
    (conv => whnf)
    refine ⟨[some 0, some 1, some 2], by decide, ?_, ?_⟩
    all_goals repeat' (first | exact leT_junk rfl | refine And.intro ?_ ?_ | exact trivial | exact .inl ⟨rfl, rfl⟩ | rfl | exact .inr ⟨_, rfl, rfl, rfl⟩ | exact ⟨_, rfl, trivial⟩ | exact ⟨_, rfl, rfl⟩ | exact ⟨_, rfl, ⟨rfl, rfl, rfl⟩, fun _ _ _ _ => rfl⟩ | exact ⟨_, rfl, ⟨rfl, rfl, .inl rfl⟩, rfl⟩ | exact ⟨_, rfl, ⟨rfl, rfl, .inr rfl⟩, rfl⟩ | exact ⟨_, rfl, ⟨rfl, rfl, rfl, rfl, rfl⟩, rfl⟩ | exact ⟨_, rfl, ⟨rfl, rfl⟩, fun _ => Iff.rfl⟩ | refine ⟨_, rfl, rfl, ?_⟩ | refine ⟨_, rfl, ⟨rfl, rfl, rfl⟩, ?_⟩)
  · repeat' ((conv => whnf); first
      | refine CutN.plain ?_
      | with_reducible refine Br.tt ?_
      | with_reducible refine Br.ff ?_
      | with_reducible refine Br.nt ?_
      | with_reducible refine Br.nf ?_
      | with_reducible refine Br.eeI ?_
      | with_reducible refine Br.nnI ?_
      | refine Br.yes (by decide) ?_
      | refine Br.no (by decide) ?_
      | refine AppN.own ?_
      | refine Need.go rfl ?_
      | refine QuiD.quiet (by kernel_rfl) ?_
      | refine IdxN.lit ?_
      | refine draw_go tabOK (by kernel_rfl) ?_
      | refine Need.go ⟨rfl, rfl⟩ ?_
      | refine Need.go ⟨⟨rfl, rfl, rfl⟩, rfl⟩ ?_
      | (with_reducible refine Br.dec (fun h => ?_) (fun h => ?_) <;> first | (exfalso; omega) | skip)
      | (with_reducible refine Br.eqI (fun h => ?_) (fun h => ?_) <;> first | (exfalso; omega) | skip)
      | (with_reducible refine Br.neI (fun h => ?_) (fun h => ?_) <;> first | (exfalso; omega) | skip)
      | (with_reducible refine Br.eqS (fun h => ?_) (fun h => ?_) <;> first | (exfalso; omega) | skip)
      | (with_reducible refine Br.neS (fun h => ?_) (fun h => ?_) <;> first | (exfalso; omega) | skip)
      | (with_reducible refine Br.nd (fun h => ?_) (fun h => ?_) <;> first | (exfalso; omega) | skip)
      | refine Ar.i64 (by omega) (by omega) ?_
      | refine Need.go (by first | omega | decide | (simp <;> omega) | fail) ?_
      | refine Need.go (by first | (simp [Value.oneCell'] <;> omega) | fail) ?_
      | refine Need.go ⟨rfl, by omega, getD_one rfl rfl⟩ ?_
      | refine Need.go ⟨rfl, by omega, fun _ _ _ _ => rfl⟩ ?_
      | (refine Br.both (fun h => ?_) (fun h => ?_) <;> first | (exfalso; omega) | skip))
    all_goals (conv => whnf)
    exact ret_pure (fun _ => rfl)
end Go.Proofs.YtghfigeepnbjaaaGreat
