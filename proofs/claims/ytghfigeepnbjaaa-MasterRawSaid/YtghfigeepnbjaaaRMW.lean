/-
  The document's master beside the program's: alike, an act's frame. No condition.
-/
import Derived.Test.YtghfigeepnbjaaaRMN
import Derived.Test.YtghfigeepnbjaaaMas8
namespace Go.Proofs.Ytghfigeepnbjaaa
open Go.RowKit
theorem RMasQ.chain {b : Nat} {x : RLoc} {m : RMasM} {Z : Nat → Prop} {w : World} (h : RMasQ b x m Z w) : ∀ j v, [Value.int .i64 m.ch.epoch, x.mem m.ch, Value.int .i64 m.ch.drain][j]? = some v → w.cell? ⟨b, 0 + 12 + j, none⟩ = some v := fun j v hv => by
  rcases j with _ | _ | _ | j
  · simp only [List.getElem?_cons_zero, Option.some.injEq] at hv
    subst hv
    exact h.at 12 _ fun _ => rfl
  · simp only [List.getElem?_cons_succ, List.getElem?_cons_zero, Option.some.injEq] at hv
    subst hv
    exact h.at 13 _ fun _ => rfl
  · simp only [List.getElem?_cons_succ, List.getElem?_cons_zero, Option.some.injEq] at hv
    subst hv
    exact h.at 14 _ fun _ => rfl
  · simp at hv
theorem RMasQ.epoch {b : Nat} {x : RLoc} {m : RMasM} {Z : Nat → Prop} {w : World} (h : RMasQ b x m Z w) : ∀ j v, [Value.int .i64 m.ch.epoch][j]? = some v → w.cell? ⟨b, 0 + 12 + 0 + j, none⟩ = some v := fun j v hv => by
  rcases j with _ | j
  · simp only [List.getElem?_cons_zero, Option.some.injEq] at hv
    subst hv
    exact h.at 12 _ fun _ => rfl
  · simp at hv
theorem RMasQ.nodes {b : Nat} {x : RLoc} {m : RMasM} {Z : Nat → Prop} {w : World} (h : RMasQ b x m Z w) : ∀ j v, [Value.int .i64 m.c.nodes][j]? = some v → w.cell? ⟨b, 0 + 0 + 0 + j, none⟩ = some v := fun j v hv => by
  rcases j with _ | j
  · simp only [List.getElem?_cons_zero, Option.some.injEq] at hv
    subst hv
    exact h.at 0 _ fun _ => rfl
  · simp at hv
abbrev twoH (b1 b2 : Nat) (m : MasM) (x : RLoc) (r : RMasM) (Z1 Z2 : Nat → Prop) : List HE := [.res true Z1 (MasQ b1 m Z1), .res true Z2 (RMasQ b2 x r Z2)]
set_option maxRecDepth 100000 in
set_option maxHeartbeats 4000000 in
theorem alike_spec (m : MasM) (hm : m.ok) (x : RLoc) (r : RMasM) (hr : r.ok) (hx : x.ok r) (ha : Agr m r) (b1 b2 : Nat) (Z1 Z2 : Nat → Prop) : Spec Try.prog 26 [masP b1, masP b2] (twoH b1 b2 m x r Z1 Z2) fun s H1 => s = .v (.bool true) ∧ H1 = twoH b1 b2 m x r Z1 Z2 := by
  have hl := okCh_len hm.ch
  have hch : r.ch = m.ch := ha.ch
  refine spec_x Try.func26 rfl 2 rfl rfl fun w0 U => ?_
  repeat' ((conv => whnf); first | refine CutN.plain ?_)
  all_goals (conv => whnf)
  refine loop_up 6 (fun k : Int => -1 ≤ k ∧ k ≤ 8) (fun k => (8 - k).toNat) (fun k => [(4, .v (.bool false)), (5, .v (.int .i64 k))]) (fun _ => []) (fun _ => []) (-1) ⟨Int.le_refl _, by decide⟩ (by
    (conv => whnf)
    refine ⟨[some 0, some 1], by decide, ?_, ?_⟩
    all_goals repeat' (first | exact leT_junk rfl | refine And.intro ?_ ?_ | exact trivial | exact .inl ⟨rfl, rfl⟩ | rfl | exact .inr ⟨_, rfl, rfl, rfl⟩ | exact ⟨_, rfl, trivial⟩ | exact ⟨_, rfl, rfl⟩ | exact ⟨_, rfl, ⟨rfl, rfl, rfl⟩, fun _ _ _ _ => rfl⟩ | exact ⟨_, rfl, ⟨rfl, rfl, .inl rfl⟩, rfl⟩ | exact ⟨_, rfl, ⟨rfl, rfl, .inr rfl⟩, rfl⟩ | exact ⟨_, rfl, ⟨rfl, rfl, rfl, rfl, rfl⟩, rfl⟩ | exact ⟨_, rfl, ⟨rfl, rfl⟩, fun _ => Iff.rfl⟩)) (fun k hk => ?_)
  by_cases hlt : k < 8
  · repeat' ((conv => whnf); first | refine CutN.plain ?_ | refine Need.go rfl ?_ | (with_reducible refine Br.dec (fun h => ?_) (fun h => ?_); first | (rotate_left; exfalso; omega; clear h) | (exfalso; omega; clear h) | skip) | refine Ar.i64 (by omega) (by omega) ?_ | refine mas_whole m hm _ 0 rfl ?_ | (refine ref_whole x r hr _ 1 rfl ?_; rw [agr_whole ha hm]) | refine Br.no (by first | (simp; done) | fail) ?_)
    all_goals (conv => whnf)
    refine ⟨k + 1, by omega, by omega, ?_⟩
    (conv => whnf)
    refine ⟨[some 0, some 1], by decide, ?_, ?_⟩
    all_goals repeat' (first | exact leT_junk rfl | refine And.intro ?_ ?_ | exact trivial | exact .inl ⟨rfl, rfl⟩ | rfl | exact .inr ⟨_, rfl, rfl, rfl⟩ | exact ⟨_, rfl, trivial⟩ | exact ⟨_, rfl, rfl⟩ | exact ⟨_, rfl, ⟨rfl, rfl, rfl⟩, fun _ _ _ _ => rfl⟩ | exact ⟨_, rfl, ⟨rfl, rfl, .inl rfl⟩, rfl⟩ | exact ⟨_, rfl, ⟨rfl, rfl, .inr rfl⟩, rfl⟩ | exact ⟨_, rfl, ⟨rfl, rfl, rfl, rfl, rfl⟩, rfl⟩ | exact ⟨_, rfl, ⟨rfl, rfl⟩, fun _ => Iff.rfl⟩)
  · obtain rfl : k = 8 := by omega
    have hsc : ∀ (p q : Value) (w : World), ChSl w p m.ch → ChSl w q r.ch → Calls Try.prog 37 #[chV m.ch p, chV r.ch q] w fun e w' => e = .returned (.bool true) ∧ w.grownBy w' none := fun p q w hp hq => by
      have := sameCh19_any m.ch r.ch p q w hp hq (by omega)
      rw [hch, sameCh_self] at this
      rw [hch]
      exact this
    repeat' ((conv => whnf); first | refine QuiD.draw (draw_go tabOK (by kernel_rfl) ?_) | refine CutN.plain ?_ | refine Br.no (by decide) ?_ | refine Need.go rfl ?_ | refine mas_chain_s m hm 0 rfl ?_ | (refine LoadC.mk' [.int .i64 r.ch.epoch, x.mem r.ch, .int .i64 r.ch.drain] rfl rfl (fun w0 U ρ w h => RMasQ.chain ((h.ent 1 _ rfl).1)) ?_) | (refine call_mem (f := 37) (args := [chS m.ch (.os 2 m.ch.mem.length), chS r.ch (.v (x.mem r.ch))]) (V := .bool true) ?_ ?_; exact fun ρ w h => hsc _ _ w (sl_os h (i := 2) rfl) (hx w (RMasQ.q (res_q h (i := 1) rfl)))))
    all_goals (conv => whnf)
    all_goals
      refine ⟨_, _, ⟨rfl, rfl⟩, by simp, ⟨rfl, rfl, trivial⟩, ⟨[some 0, some 1], ⟨by decide, rfl⟩, ?_, ?_⟩⟩
      all_goals repeat' (first | exact leT_junk rfl | refine And.intro ?_ ?_ | exact trivial | exact .inl ⟨rfl, rfl⟩ | rfl | exact .inr ⟨_, rfl, rfl, rfl⟩ | exact ⟨_, rfl, trivial⟩ | exact ⟨_, rfl, rfl⟩ | exact ⟨_, rfl, ⟨rfl, rfl, rfl⟩, fun _ _ _ _ => rfl⟩ | exact ⟨_, rfl, ⟨rfl, rfl, .inl rfl⟩, rfl⟩ | exact ⟨_, rfl, ⟨rfl, rfl, .inr rfl⟩, rfl⟩ | exact ⟨_, rfl, ⟨rfl, rfl, rfl, rfl, rfl⟩, rfl⟩ | exact ⟨_, rfl, ⟨rfl, rfl⟩, fun _ => Iff.rfl⟩)
abbrev actCells (y : ActMM) : List SV := .v (.int .u8 y.kind) :: .v (.int .u8 y.a) :: .v (.int .u8 y.b) :: .v (.int .i64 y.frm) :: frL y.f (.v y.q)
abbrev actMS (y : ActMM) : SV := .agg (actCells y)
end Go.Proofs.Ytghfigeepnbjaaa
