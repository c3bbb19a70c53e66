/-
  Calls held against a log: mayBe. No condition.
-/
import Derived.Test.YtlphkjbadjdleaaLin1
namespace Go.Proofs.Ytlphkjbadjdleaa
abbrev mayH (l : List RecM) (d : List EntM) (es1 es2 : List (Value × Value)) : List HE := [heldE d.length, .mp true callZ es1 none, .mp true lkZ es2 none, .row 14 l.length (recF l), .row 7 d.length (entF' d)]
set_option maxRecDepth 100000 in
set_option maxHeartbeats 8000000 in
theorem linMay (l : List RecM) (d : List EntM) (es1 es2 : List (Value × Value)) (cl cd : Nat) (hl : l.length ≤ 100000) (hd : d.length ≤ 4000) (h1 : StandOK d d.length es1) :
    Spec Try.prog 59 [.p 0 0, .rs 3 l.length cl, .rs 4 d.length cd] (mayH l d es1 es2) fun s H1 => s = .v (.bool (mayM l d)) ∧ H1 = mayH l d es1 es2 := by
  refine spec_x Try.func59 rfl 5 rfl rfl fun w0 U => ?_
  repeat' ((conv => whnf); first
      | refine CutN.plain ?_
      | with_reducible refine Br.tt ?_
      | with_reducible refine Br.ff ?_
      | with_reducible refine Br.nt ?_
      | with_reducible refine Br.nf ?_
      | with_reducible refine Br.eeI ?_
      | with_reducible refine Br.nnI ?_
      | refine Br.yes (by decide) ?_
      | refine Br.no (by decide) ?_
      | refine AppN.own ?_
      | refine Need.go rfl ?_
      | refine QuiD.quiet (by kernel_rfl) ?_
      | refine IdxN.lit ?_
      | refine draw_go tabOK (by kernel_rfl) ?_
      | refine Need.go ⟨rfl, rfl⟩ ?_
      | refine Need.go ⟨⟨rfl, rfl, rfl⟩, rfl⟩ ?_
      | (with_reducible refine Br.dec (fun h => ?_) (fun h => ?_); first | (rotate_left; exfalso; omega; clear h) | (exfalso; omega; clear h) | skip)
      | (with_reducible refine Br.eqI (fun h => ?_) (fun h => ?_); first | (rotate_left; exfalso; omega; clear h) | (exfalso; omega; clear h) | skip)
      | (with_reducible refine Br.neI (fun h => ?_) (fun h => ?_); first | (rotate_left; exfalso; omega; clear h) | (exfalso; omega; clear h) | skip)
      | (with_reducible refine Br.eqS (fun h => ?_) (fun h => ?_); first | (rotate_left; exfalso; omega; clear h) | (exfalso; omega; clear h) | skip)
      | (with_reducible refine Br.neS (fun h => ?_) (fun h => ?_); first | (rotate_left; exfalso; omega; clear h) | (exfalso; omega; clear h) | skip)
      | (with_reducible refine Br.nd (fun h => ?_) (fun h => ?_); first | (rotate_left; exfalso; omega; clear h) | (exfalso; omega; clear h) | skip)
      | refine Ar.i64 (by omega) (by omega) ?_
      | refine Need.go (by first | omega | decide | (simp <;> omega) | fail) ?_
      | refine Need.go (by first | (simp [Value.oneCell'] <;> omega) | fail) ?_
      | refine Need.go ⟨rfl, by omega, getD_one rfl rfl⟩ ?_
      | refine Need.go ⟨rfl, by omega, fun _ _ _ _ => rfl⟩ ?_
      | refine Br.both (fun h => ?_) (fun h => ?_))
  all_goals (conv => whnf)
  refine loop_up 17 (fun x : Nat × List (Value × Value) => x.1 ≤ l.length ∧ OwnsOK l x.1 x.2) (fun x => l.length - x.1) (fun x => [(9, .junk), (16, .v (.int .i64 x.1))]) (fun x => [(5, .ent (.mp true ownZ x.2 none))]) (fun _ => []) (0, []) ⟨Nat.zero_le _, ownsOK_0 l⟩ (by
    (conv => whnf)
    refine ⟨[some 0, some 1, some 2, some 3, some 4, some 5], by decide, ?_, ?_⟩
    all_goals repeat' (first | exact leT_junk rfl | refine And.intro ?_ ?_ | exact trivial | exact .inl ⟨rfl, rfl⟩ | rfl | exact .inr ⟨_, rfl, rfl, rfl⟩ | exact ⟨_, rfl, trivial⟩ | exact ⟨_, rfl, rfl⟩ | exact ⟨_, rfl, ⟨rfl, rfl, rfl⟩, fun _ _ _ _ => rfl⟩ | exact ⟨_, rfl, ⟨rfl, rfl, .inl rfl⟩, rfl⟩ | exact ⟨_, rfl, ⟨rfl, rfl, .inr rfl⟩, rfl⟩ | exact ⟨_, rfl, ⟨rfl, rfl, rfl, rfl, rfl⟩, rfl⟩ | exact ⟨_, rfl, ⟨rfl, rfl⟩, fun _ => Iff.rfl⟩ | refine ⟨_, rfl, rfl, ?_⟩ | refine ⟨_, rfl, ⟨rfl, rfl, rfl⟩, ?_⟩)) (fun x hx => ?_)
  obtain ⟨k, es⟩ := x
  obtain ⟨hk, hO⟩ := hx
  simp only at hk hO
  dsimp only
  by_cases hlt : k < l.length
  · obtain ⟨r, hr⟩ : ∃ r, l.getD k recZ = r := ⟨_, rfl⟩
    have hlk := hO.look r.client r.seq r.op
    have hnx := ownsOK_next hO hlt
    rw [hr] at hnx
    obtain ⟨c, hc⟩ : ∃ c, ownN (l.take k) r.client r.seq r.op = c := ⟨_, rfl⟩
    rw [hc] at hlk
    have hcl : c ≤ l.length := by
      rw [← hc]
      exact Nat.le_trans (List.length_filter_le _ _) (by simp; omega)
    have hup := fun v => lookE_upd (v := v) (ownV_ok r.client r.seq r.op) (ownV_ok r.client r.seq r.op) hO.keys
    have hse : keyEq (ownV r.client r.seq r.op) (ownV r.client r.seq r.op) = true := by rw [ownV_eq]; simp
    simp only [hse, if_true] at hup
    simp only [hc] at hnx
    subst hr
    by_cases h0 : c = 0
    · subst h0
      simp only [if_true] at hlk
      repeat' ((conv => whnf); first
          | refine QuiD.draw (ord_each tabOK (.sp 9 11 [0,1,2,3,4,5,6,7,8,9,10,11,12,13] [0,1,2,3,4,5,6,7,8,11,9,10,12,13] (.sp 10 11 [0,1,2,3,4,5,6,7,8,9,10,11,12,13] [0,1,2,3,4,5,6,7,8,9,11,10,12,13] .leaf .leaf) .leaf) (show _ = 14 from rfl) (by kernel_rfl) (by kernel_rfl) ?_)
          | refine ord_each tabOK (.sp 9 11 [0,1,2,3,4,5,6,7,8,9,10,11,12,13] [0,1,2,3,4,5,6,7,8,11,9,10,12,13] (.sp 10 11 [0,1,2,3,4,5,6,7,8,9,10,11,12,13] [0,1,2,3,4,5,6,7,8,9,11,10,12,13] .leaf .leaf) .leaf) (show _ = 14 from rfl) (by kernel_rfl) (by kernel_rfl) ?_
          | refine And.intro ?_ ?_
          | refine CutN.plain ?_
          | with_reducible refine Br.tt ?_
          | with_reducible refine Br.ff ?_
          | with_reducible refine Br.nt ?_
          | with_reducible refine Br.nf ?_
          | with_reducible refine Br.eeI ?_
          | with_reducible refine Br.nnI ?_
          | refine Br.yes (by decide) ?_
          | refine Br.no (by decide) ?_
          | refine AppN.own ?_
          | refine Need.go rfl ?_
          | refine QuiD.quiet (by kernel_rfl) ?_
          | refine IdxN.lit ?_
          | refine draw_go tabOK (by kernel_rfl) ?_
          | refine Need.go ⟨rfl, rfl⟩ ?_
          | refine Need.go ⟨⟨rfl, rfl, rfl⟩, rfl⟩ ?_
          | (with_reducible refine Br.dec (fun h => ?_) (fun h => ?_); first | (rotate_left; exfalso; omega; clear h) | (exfalso; omega; clear h) | skip)
          | (with_reducible refine Br.eqI (fun h => ?_) (fun h => ?_); first | (rotate_left; exfalso; omega; clear h) | (exfalso; omega; clear h) | skip)
          | (with_reducible refine Br.neI (fun h => ?_) (fun h => ?_); first | (rotate_left; exfalso; omega; clear h) | (exfalso; omega; clear h) | skip)
          | (with_reducible refine Br.eqS (fun h => ?_) (fun h => ?_); first | (rotate_left; exfalso; omega; clear h) | (exfalso; omega; clear h) | skip)
          | (with_reducible refine Br.neS (fun h => ?_) (fun h => ?_); first | (rotate_left; exfalso; omega; clear h) | (exfalso; omega; clear h) | skip)
          | (with_reducible refine Br.nd (fun h => ?_) (fun h => ?_); first | (rotate_left; exfalso; omega; clear h) | (exfalso; omega; clear h) | skip)
          | refine Ar.i64 (by omega) (by omega) ?_
          | refine LookN.mk ⟨_, hlk, ?_⟩
          | refine LookN.mk ⟨_, hup (.int .i64 0), ?_⟩
          | refine fun (ents : Array MapEntry) (clock : Nat) => ?_
          | refine EntS.mk ⟨ownV (l.getD k recZ).client (l.getD k recZ).seq (l.getD k recZ).op, ⟨rfl, congrArg Option.isSome (hup (.int .i64 0)), ownV_ok _ _ _⟩, ?_⟩
          | refine Need.go (by first | omega | decide | (simp <;> omega) | fail) ?_
          | refine Need.go (by first | (simp [Value.oneCell'] <;> omega) | fail) ?_
          | refine Need.go ⟨rfl, by omega, getD_one rfl rfl⟩ ?_
          | refine Need.go ⟨rfl, by omega, fun _ _ _ _ => rfl⟩ ?_
          | refine Br.both (fun h => ?_) (fun h => ?_))
      all_goals (conv => whnf)
      all_goals
        refine ⟨(k + 1, _), ⟨by dsimp only; omega, hnx (.int .i64 0)⟩, by dsimp only; omega, ?_⟩
        (conv => whnf)
        refine ⟨[some 0, some 1, some 2, some 3, some 4, some 5], by decide, ?_, ?_⟩
        all_goals repeat' (first | exact leT_junk rfl | refine And.intro ?_ ?_ | exact trivial | exact .inl ⟨rfl, rfl⟩ | rfl | exact .inr ⟨_, rfl, rfl, rfl⟩ | exact ⟨_, rfl, trivial⟩ | exact ⟨_, rfl, rfl⟩ | exact ⟨_, rfl, ⟨rfl, rfl, rfl⟩, fun _ _ _ _ => rfl⟩ | exact ⟨_, rfl, ⟨rfl, rfl, .inl rfl⟩, rfl⟩ | exact ⟨_, rfl, ⟨rfl, rfl, .inr rfl⟩, rfl⟩ | exact ⟨_, rfl, ⟨rfl, rfl, rfl, rfl, rfl⟩, rfl⟩ | exact ⟨_, rfl, ⟨rfl, rfl⟩, fun _ => Iff.rfl⟩ | refine ⟨_, rfl, rfl, ?_⟩ | refine ⟨_, rfl, ⟨rfl, rfl, rfl⟩, ?_⟩)
    · simp only [h0, if_false] at hlk
      repeat' ((conv => whnf); first
          | refine QuiD.draw (ord_each tabOK (.sp 9 11 [0,1,2,3,4,5,6,7,8,9,10,11,12,13] [0,1,2,3,4,5,6,7,8,11,9,10,12,13] (.sp 10 11 [0,1,2,3,4,5,6,7,8,9,10,11,12,13] [0,1,2,3,4,5,6,7,8,9,11,10,12,13] .leaf .leaf) .leaf) (show _ = 14 from rfl) (by kernel_rfl) (by kernel_rfl) ?_)
          | refine ord_each tabOK (.sp 9 11 [0,1,2,3,4,5,6,7,8,9,10,11,12,13] [0,1,2,3,4,5,6,7,8,11,9,10,12,13] (.sp 10 11 [0,1,2,3,4,5,6,7,8,9,10,11,12,13] [0,1,2,3,4,5,6,7,8,9,11,10,12,13] .leaf .leaf) .leaf) (show _ = 14 from rfl) (by kernel_rfl) (by kernel_rfl) ?_
          | refine And.intro ?_ ?_
          | refine CutN.plain ?_
          | with_reducible refine Br.tt ?_
          | with_reducible refine Br.ff ?_
          | with_reducible refine Br.nt ?_
          | with_reducible refine Br.nf ?_
          | with_reducible refine Br.eeI ?_
          | with_reducible refine Br.nnI ?_
          | refine Br.yes (by decide) ?_
          | refine Br.no (by decide) ?_
          | refine AppN.own ?_
          | refine Need.go rfl ?_
          | refine QuiD.quiet (by kernel_rfl) ?_
          | refine IdxN.lit ?_
          | refine draw_go tabOK (by kernel_rfl) ?_
          | refine Need.go ⟨rfl, rfl⟩ ?_
          | refine Need.go ⟨⟨rfl, rfl, rfl⟩, rfl⟩ ?_
          | (with_reducible refine Br.dec (fun h => ?_) (fun h => ?_); first | (rotate_left; exfalso; omega; clear h) | (exfalso; omega; clear h) | skip)
          | (with_reducible refine Br.eqI (fun h => ?_) (fun h => ?_); first | (rotate_left; exfalso; omega; clear h) | (exfalso; omega; clear h) | skip)
          | (with_reducible refine Br.neI (fun h => ?_) (fun h => ?_); first | (rotate_left; exfalso; omega; clear h) | (exfalso; omega; clear h) | skip)
          | (with_reducible refine Br.eqS (fun h => ?_) (fun h => ?_); first | (rotate_left; exfalso; omega; clear h) | (exfalso; omega; clear h) | skip)
          | (with_reducible refine Br.neS (fun h => ?_) (fun h => ?_); first | (rotate_left; exfalso; omega; clear h) | (exfalso; omega; clear h) | skip)
          | (with_reducible refine Br.nd (fun h => ?_) (fun h => ?_); first | (rotate_left; exfalso; omega; clear h) | (exfalso; omega; clear h) | skip)
          | refine Ar.i64 (by omega) (by omega) ?_
          | refine LookN.mk ⟨_, hlk, ?_⟩
          | refine LookN.mk ⟨_, hup (.int .i64 c), ?_⟩
          | refine fun (ents : Array MapEntry) (clock : Nat) => ?_
          | refine EntS.mk ⟨ownV (l.getD k recZ).client (l.getD k recZ).seq (l.getD k recZ).op, ⟨rfl, congrArg Option.isSome (hup (.int .i64 c)), ownV_ok _ _ _⟩, ?_⟩
          | refine Need.go (by first | omega | decide | (simp <;> omega) | fail) ?_
          | refine Need.go (by first | (simp [Value.oneCell'] <;> omega) | fail) ?_
          | refine Need.go ⟨rfl, by omega, getD_one rfl rfl⟩ ?_
          | refine Need.go ⟨rfl, by omega, fun _ _ _ _ => rfl⟩ ?_
          | refine Br.both (fun h => ?_) (fun h => ?_))
      all_goals (conv => whnf)
      all_goals
        refine ⟨(k + 1, _), ⟨by dsimp only; omega, hnx (.int .i64 c)⟩, by dsimp only; omega, ?_⟩
        (conv => whnf)
        refine ⟨[some 0, some 1, some 2, some 3, some 4, some 5], by decide, ?_, ?_⟩
        all_goals repeat' (first | exact leT_junk rfl | refine And.intro ?_ ?_ | exact trivial | exact .inl ⟨rfl, rfl⟩ | rfl | exact .inr ⟨_, rfl, rfl, rfl⟩ | exact ⟨_, rfl, trivial⟩ | exact ⟨_, rfl, rfl⟩ | exact ⟨_, rfl, ⟨rfl, rfl, rfl⟩, fun _ _ _ _ => rfl⟩ | exact ⟨_, rfl, ⟨rfl, rfl, .inl rfl⟩, rfl⟩ | exact ⟨_, rfl, ⟨rfl, rfl, .inr rfl⟩, rfl⟩ | exact ⟨_, rfl, ⟨rfl, rfl, rfl, rfl, rfl⟩, rfl⟩ | exact ⟨_, rfl, ⟨rfl, rfl⟩, fun _ => Iff.rfl⟩ | refine ⟨_, rfl, rfl, ?_⟩ | refine ⟨_, rfl, ⟨rfl, rfl, rfl⟩, ?_⟩)
  · obtain rfl : k = l.length := by omega
    have hO2 : ∀ c s o, lookE es (ownV c s o) = if ownN l c s o = 0 then none else some (.int .i64 (ownN l c s o)) := fun c s o => by
      rw [hO.look, List.take_length]
    repeat' ((conv => whnf); first
        | refine CutN.plain ?_
        | with_reducible refine Br.tt ?_
        | with_reducible refine Br.ff ?_
        | with_reducible refine Br.nt ?_
        | with_reducible refine Br.nf ?_
        | with_reducible refine Br.eeI ?_
        | with_reducible refine Br.nnI ?_
        | refine Br.yes (by decide) ?_
        | refine Br.no (by decide) ?_
        | refine AppN.own ?_
        | refine Need.go rfl ?_
        | refine QuiD.quiet (by kernel_rfl) ?_
        | refine IdxN.lit ?_
        | refine draw_go tabOK (by kernel_rfl) ?_
        | refine Need.go ⟨rfl, rfl⟩ ?_
        | refine Need.go ⟨⟨rfl, rfl, rfl⟩, rfl⟩ ?_
        | (with_reducible refine Br.dec (fun h => ?_) (fun h => ?_); first | (rotate_left; exfalso; omega; clear h) | (exfalso; omega; clear h) | skip)
        | (with_reducible refine Br.eqI (fun h => ?_) (fun h => ?_); first | (rotate_left; exfalso; omega; clear h) | (exfalso; omega; clear h) | skip)
        | (with_reducible refine Br.neI (fun h => ?_) (fun h => ?_); first | (rotate_left; exfalso; omega; clear h) | (exfalso; omega; clear h) | skip)
        | (with_reducible refine Br.eqS (fun h => ?_) (fun h => ?_); first | (rotate_left; exfalso; omega; clear h) | (exfalso; omega; clear h) | skip)
        | (with_reducible refine Br.neS (fun h => ?_) (fun h => ?_); first | (rotate_left; exfalso; omega; clear h) | (exfalso; omega; clear h) | skip)
        | (with_reducible refine Br.nd (fun h => ?_) (fun h => ?_); first | (rotate_left; exfalso; omega; clear h) | (exfalso; omega; clear h) | skip)
        | refine Ar.i64 (by omega) (by omega) ?_
        | refine Need.go (by first | omega | decide | (simp <;> omega) | fail) ?_
        | refine Need.go (by first | (simp [Value.oneCell'] <;> omega) | fail) ?_
        | refine Need.go ⟨rfl, by omega, getD_one rfl rfl⟩ ?_
        | refine Need.go ⟨rfl, by omega, fun _ _ _ _ => rfl⟩ ?_
        | refine Br.both (fun h => ?_) (fun h => ?_))
    all_goals (conv => whnf)
    refine loop_up 37 (fun i : Nat => i ≤ d.length ∧ ∀ j, j < i → entOK l d j (d.getD j entZ) = true) (fun i => d.length - i) (fun i => [(10, .junk), (11, .junk), (12, .junk), (36, .v (.int .i64 i))]) (fun _ => []) (fun _ => []) 0 ⟨Nat.zero_le _, fun j h => absurd h (by omega)⟩ (by
      (conv => whnf)
      refine ⟨[some 0, some 1, some 2, some 3, some 4, some 5], by decide, ?_, ?_⟩
      all_goals repeat' (first | exact leT_junk rfl | refine And.intro ?_ ?_ | exact trivial | exact .inl ⟨rfl, rfl⟩ | rfl | exact .inr ⟨_, rfl, rfl, rfl⟩ | exact ⟨_, rfl, trivial⟩ | exact ⟨_, rfl, rfl⟩ | exact ⟨_, rfl, ⟨rfl, rfl, rfl⟩, fun _ _ _ _ => rfl⟩ | exact ⟨_, rfl, ⟨rfl, rfl, .inl rfl⟩, rfl⟩ | exact ⟨_, rfl, ⟨rfl, rfl, .inr rfl⟩, rfl⟩ | exact ⟨_, rfl, ⟨rfl, rfl, rfl, rfl, rfl⟩, rfl⟩ | exact ⟨_, rfl, ⟨rfl, rfl⟩, fun _ => Iff.rfl⟩ | refine ⟨_, rfl, rfl, ?_⟩ | refine ⟨_, rfl, ⟨rfl, rfl, rfl⟩, ?_⟩)) (fun i hi => ?_)
    obtain ⟨hi, hj⟩ := hi
    by_cases hlt2 : i < d.length
    · have hcs := count_self hlt2
      have hcl : countN d (d.getD i entZ).client (d.getD i entZ).seq ≤ d.length := List.length_filter_le _ _
      obtain ⟨i0, hf⟩ : ∃ i0, firstN d (d.getD i entZ).client (d.getD i entZ).seq = some i0 := by
        cases hf : firstN d (d.getD i entZ).client (d.getD i entZ).seq with
        | none => rw [first_count.1 hf] at hcs; omega
        | some i0 => exact ⟨i0, rfl⟩
      have hw := h1.whole (d.getD i entZ).client (d.getD i entZ).seq
      rw [hf] at hw
      obtain ⟨cn, hcn⟩ : ∃ cn, countN d (d.getD i entZ).client (d.getD i entZ).seq = cn := ⟨_, rfl⟩
      rw [hcn] at hw hcs hcl
      have hlo := hO2 (d.getD i entZ).client (d.getD i entZ).seq (d.getD i entZ).op
      have hoa := own_any l (d.getD i entZ)
      obtain ⟨on, hon⟩ : ∃ on, ownN l (d.getD i entZ).client (d.getD i entZ).seq (d.getD i entZ).op = on := ⟨_, rfl⟩
      rw [hon] at hlo hoa
      obtain ⟨c, hc⟩ : ∃ c, chkO (d.getD i entZ).op = c := ⟨_, rfl⟩
      by_cases h0 : on = 0
      · simp only [h0, if_true] at hlo
        repeat' ((conv => whnf); first
            | refine CutN.plain ?_
            | with_reducible refine Br.tt ?_
            | with_reducible refine Br.ff ?_
            | with_reducible refine Br.nt ?_
            | with_reducible refine Br.nf ?_
            | with_reducible refine Br.eeI ?_
            | with_reducible refine Br.nnI ?_
            | refine Br.yes (by decide) ?_
            | refine Br.no (by decide) ?_
            | refine AppN.own ?_
            | refine Need.go rfl ?_
            | refine QuiD.quiet (by kernel_rfl) ?_
            | refine IdxN.lit ?_
            | refine draw_go tabOK (by kernel_rfl) ?_
            | refine Need.go ⟨rfl, rfl⟩ ?_
            | refine Need.go ⟨⟨rfl, rfl, rfl⟩, rfl⟩ ?_
            | (with_reducible refine Br.dec (fun h => ?_) (fun h => ?_); first | (rotate_left; exfalso; omega; clear h) | (exfalso; omega; clear h) | skip)
            | (with_reducible refine Br.eqI (fun h => ?_) (fun h => ?_); first | (rotate_left; exfalso; omega; clear h) | (exfalso; omega; clear h) | skip)
            | (with_reducible refine Br.neI (fun h => ?_) (fun h => ?_); first | (rotate_left; exfalso; omega; clear h) | (exfalso; omega; clear h) | skip)
            | (with_reducible refine Br.eqS (fun h => ?_) (fun h => ?_); first | (rotate_left; exfalso; omega; clear h) | (exfalso; omega; clear h) | skip)
            | (with_reducible refine Br.neS (fun h => ?_) (fun h => ?_); first | (rotate_left; exfalso; omega; clear h) | (exfalso; omega; clear h) | skip)
            | (with_reducible refine Br.nd (fun h => ?_) (fun h => ?_); first | (rotate_left; exfalso; omega; clear h) | (exfalso; omega; clear h) | skip)
            | refine Ar.i64 (by omega) (by omega) ?_
            | (refine call_mem (f := 54) (args := [.agg [.v (entF' d i 3), .v (entF' d i 4), .v (entF' d i 5), .v (entF' d i 6)]]) (V := .int .i64 c) ?_ ?_; exact fun ρ w h => check_at (d.getD i entZ).op c w hc)
            | (refine quiet_mem (f := 54) (args := [.agg [.v (entF' d i 3), .v (entF' d i 4), .v (entF' d i 5), .v (entF' d i 6)]]) (V := .int .i64 c) ?_ ?_; exact fun ρ w h => check_at (d.getD i entZ).op c w hc)
            | (refine seg_mem (f := 54) (args := [.agg [.v (entF' d i 3), .v (entF' d i 4), .v (entF' d i 5), .v (entF' d i 6)]]) (V := .int .i64 c) ?_ ?_; exact fun ρ w h => check_at (d.getD i entZ).op c w hc)
            | (refine call_mem (f := 28) (args := [.agg [.v (entF' d i 3), .v (entF' d i 4), .v (entF' d i 5), .v (entF' d i 6)]]) (V := .bool (readsO (d.getD i entZ).op)) ?_ ?_; exact fun ρ w h => reads_at (d.getD i entZ).op _ w rfl)
            | (refine quiet_mem (f := 28) (args := [.agg [.v (entF' d i 3), .v (entF' d i 4), .v (entF' d i 5), .v (entF' d i 6)]]) (V := .bool (readsO (d.getD i entZ).op)) ?_ ?_; exact fun ρ w h => reads_at (d.getD i entZ).op _ w rfl)
            | (refine seg_mem (f := 28) (args := [.agg [.v (entF' d i 3), .v (entF' d i 4), .v (entF' d i 5), .v (entF' d i 6)]]) (V := .bool (readsO (d.getD i entZ).op)) ?_ ?_; exact fun ρ w h => reads_at (d.getD i entZ).op _ w rfl)
            | refine LookN.mk ⟨_, hw, ?_⟩
            | refine LookN.mk ⟨_, hlo, ?_⟩
            | refine Need.go (by first | omega | decide | (simp <;> omega) | fail) ?_
            | refine Need.go (by first | (simp [Value.oneCell'] <;> omega) | fail) ?_
            | refine Need.go ⟨rfl, by omega, getD_one rfl rfl⟩ ?_
            | refine Need.go ⟨rfl, by omega, fun _ _ _ _ => rfl⟩ ?_
            | refine Br.both (fun h => ?_) (fun h => ?_))
        all_goals (conv => whnf)
        all_goals simp only [Int.toNat_natCast] at *
        all_goals first
          | (refine endk ?_ ⟨_, _, ⟨rfl, rfl⟩, by simp, ⟨rfl, rfl, trivial⟩, ⟨[some 0, some 1, some 2, some 3, some 4], ⟨by decide, rfl⟩, ?_, ?_⟩⟩
             · (refine congrArg Value.bool (mayM_no hlt2 ?_).symm)
               (focus (rw [entOK_eq]; clear hj; simp_all <;> first | omega | (intros; omega)))
             all_goals repeat' (first | exact leT_junk rfl | refine And.intro ?_ ?_ | exact trivial | exact .inl ⟨rfl, rfl⟩ | rfl | exact .inr ⟨_, rfl, rfl, rfl⟩ | exact ⟨_, rfl, trivial⟩ | exact ⟨_, rfl, rfl⟩ | exact ⟨_, rfl, ⟨rfl, rfl, rfl⟩, fun _ _ _ _ => rfl⟩ | exact ⟨_, rfl, ⟨rfl, rfl, .inl rfl⟩, rfl⟩ | exact ⟨_, rfl, ⟨rfl, rfl, .inr rfl⟩, rfl⟩ | exact ⟨_, rfl, ⟨rfl, rfl, rfl, rfl, rfl⟩, rfl⟩ | exact ⟨_, rfl, ⟨rfl, rfl⟩, fun _ => Iff.rfl⟩ | refine ⟨_, rfl, rfl, ?_⟩ | refine ⟨_, rfl, ⟨rfl, rfl, rfl⟩, ?_⟩))
          | (refine ⟨i + 1, ⟨by omega, fun j hj' => ?_⟩, by omega, ?_⟩
             · (refine (Nat.lt_or_ge j i).elim (hj j) (fun e => ?_))
               obtain rfl : j = i := by omega
               (focus (rw [entOK_eq]; clear hj; simp_all <;> first | omega | (intros; omega)))
             · (conv => whnf)
               refine ⟨[some 0, some 1, some 2, some 3, some 4, some 5], by decide, ?_, ?_⟩
               all_goals repeat' (first | exact leT_junk rfl | refine And.intro ?_ ?_ | exact trivial | exact .inl ⟨rfl, rfl⟩ | rfl | exact .inr ⟨_, rfl, rfl, rfl⟩ | exact ⟨_, rfl, trivial⟩ | exact ⟨_, rfl, rfl⟩ | exact ⟨_, rfl, ⟨rfl, rfl, rfl⟩, fun _ _ _ _ => rfl⟩ | exact ⟨_, rfl, ⟨rfl, rfl, .inl rfl⟩, rfl⟩ | exact ⟨_, rfl, ⟨rfl, rfl, .inr rfl⟩, rfl⟩ | exact ⟨_, rfl, ⟨rfl, rfl, rfl, rfl, rfl⟩, rfl⟩ | exact ⟨_, rfl, ⟨rfl, rfl⟩, fun _ => Iff.rfl⟩ | refine ⟨_, rfl, rfl, ?_⟩ | refine ⟨_, rfl, ⟨rfl, rfl, rfl⟩, ?_⟩))
          | fail
      · simp only [h0, if_false] at hlo
        repeat' ((conv => whnf); first
            | refine CutN.plain ?_
            | with_reducible refine Br.tt ?_
            | with_reducible refine Br.ff ?_
            | with_reducible refine Br.nt ?_
            | with_reducible refine Br.nf ?_
            | with_reducible refine Br.eeI ?_
            | with_reducible refine Br.nnI ?_
            | refine Br.yes (by decide) ?_
            | refine Br.no (by decide) ?_
            | refine AppN.own ?_
            | refine Need.go rfl ?_
            | refine QuiD.quiet (by kernel_rfl) ?_
            | refine IdxN.lit ?_
            | refine draw_go tabOK (by kernel_rfl) ?_
            | refine Need.go ⟨rfl, rfl⟩ ?_
            | refine Need.go ⟨⟨rfl, rfl, rfl⟩, rfl⟩ ?_
            | (with_reducible refine Br.dec (fun h => ?_) (fun h => ?_); first | (rotate_left; exfalso; omega; clear h) | (exfalso; omega; clear h) | skip)
            | (with_reducible refine Br.eqI (fun h => ?_) (fun h => ?_); first | (rotate_left; exfalso; omega; clear h) | (exfalso; omega; clear h) | skip)
            | (with_reducible refine Br.neI (fun h => ?_) (fun h => ?_); first | (rotate_left; exfalso; omega; clear h) | (exfalso; omega; clear h) | skip)
            | (with_reducible refine Br.eqS (fun h => ?_) (fun h => ?_); first | (rotate_left; exfalso; omega; clear h) | (exfalso; omega; clear h) | skip)
            | (with_reducible refine Br.neS (fun h => ?_) (fun h => ?_); first | (rotate_left; exfalso; omega; clear h) | (exfalso; omega; clear h) | skip)
            | (with_reducible refine Br.nd (fun h => ?_) (fun h => ?_); first | (rotate_left; exfalso; omega; clear h) | (exfalso; omega; clear h) | skip)
            | refine Ar.i64 (by omega) (by omega) ?_
            | (refine call_mem (f := 54) (args := [.agg [.v (entF' d i 3), .v (entF' d i 4), .v (entF' d i 5), .v (entF' d i 6)]]) (V := .int .i64 c) ?_ ?_; exact fun ρ w h => check_at (d.getD i entZ).op c w hc)
            | (refine quiet_mem (f := 54) (args := [.agg [.v (entF' d i 3), .v (entF' d i 4), .v (entF' d i 5), .v (entF' d i 6)]]) (V := .int .i64 c) ?_ ?_; exact fun ρ w h => check_at (d.getD i entZ).op c w hc)
            | (refine seg_mem (f := 54) (args := [.agg [.v (entF' d i 3), .v (entF' d i 4), .v (entF' d i 5), .v (entF' d i 6)]]) (V := .int .i64 c) ?_ ?_; exact fun ρ w h => check_at (d.getD i entZ).op c w hc)
            | (refine call_mem (f := 28) (args := [.agg [.v (entF' d i 3), .v (entF' d i 4), .v (entF' d i 5), .v (entF' d i 6)]]) (V := .bool (readsO (d.getD i entZ).op)) ?_ ?_; exact fun ρ w h => reads_at (d.getD i entZ).op _ w rfl)
            | (refine quiet_mem (f := 28) (args := [.agg [.v (entF' d i 3), .v (entF' d i 4), .v (entF' d i 5), .v (entF' d i 6)]]) (V := .bool (readsO (d.getD i entZ).op)) ?_ ?_; exact fun ρ w h => reads_at (d.getD i entZ).op _ w rfl)
            | (refine seg_mem (f := 28) (args := [.agg [.v (entF' d i 3), .v (entF' d i 4), .v (entF' d i 5), .v (entF' d i 6)]]) (V := .bool (readsO (d.getD i entZ).op)) ?_ ?_; exact fun ρ w h => reads_at (d.getD i entZ).op _ w rfl)
            | refine LookN.mk ⟨_, hw, ?_⟩
            | refine LookN.mk ⟨_, hlo, ?_⟩
            | refine Need.go (by first | omega | decide | (simp <;> omega) | fail) ?_
            | refine Need.go (by first | (simp [Value.oneCell'] <;> omega) | fail) ?_
            | refine Need.go ⟨rfl, by omega, getD_one rfl rfl⟩ ?_
            | refine Need.go ⟨rfl, by omega, fun _ _ _ _ => rfl⟩ ?_
            | refine Br.both (fun h => ?_) (fun h => ?_))
        all_goals (conv => whnf)
        all_goals simp only [Int.toNat_natCast] at *
        all_goals first
          | (refine endk ?_ ⟨_, _, ⟨rfl, rfl⟩, by simp, ⟨rfl, rfl, trivial⟩, ⟨[some 0, some 1, some 2, some 3, some 4], ⟨by decide, rfl⟩, ?_, ?_⟩⟩
             · (refine congrArg Value.bool (mayM_no hlt2 ?_).symm)
               (focus (rw [entOK_eq]; clear hj; simp_all <;> first | omega | (intros; omega)))
             all_goals repeat' (first | exact leT_junk rfl | refine And.intro ?_ ?_ | exact trivial | exact .inl ⟨rfl, rfl⟩ | rfl | exact .inr ⟨_, rfl, rfl, rfl⟩ | exact ⟨_, rfl, trivial⟩ | exact ⟨_, rfl, rfl⟩ | exact ⟨_, rfl, ⟨rfl, rfl, rfl⟩, fun _ _ _ _ => rfl⟩ | exact ⟨_, rfl, ⟨rfl, rfl, .inl rfl⟩, rfl⟩ | exact ⟨_, rfl, ⟨rfl, rfl, .inr rfl⟩, rfl⟩ | exact ⟨_, rfl, ⟨rfl, rfl, rfl, rfl, rfl⟩, rfl⟩ | exact ⟨_, rfl, ⟨rfl, rfl⟩, fun _ => Iff.rfl⟩ | refine ⟨_, rfl, rfl, ?_⟩ | refine ⟨_, rfl, ⟨rfl, rfl, rfl⟩, ?_⟩))
          | (refine ⟨i + 1, ⟨by omega, fun j hj' => ?_⟩, by omega, ?_⟩
             · (refine (Nat.lt_or_ge j i).elim (hj j) (fun e => ?_))
               obtain rfl : j = i := by omega
               (focus (rw [entOK_eq]; clear hj; simp_all <;> first | omega | (intros; omega)))
             · (conv => whnf)
               refine ⟨[some 0, some 1, some 2, some 3, some 4, some 5], by decide, ?_, ?_⟩
               all_goals repeat' (first | exact leT_junk rfl | refine And.intro ?_ ?_ | exact trivial | exact .inl ⟨rfl, rfl⟩ | rfl | exact .inr ⟨_, rfl, rfl, rfl⟩ | exact ⟨_, rfl, trivial⟩ | exact ⟨_, rfl, rfl⟩ | exact ⟨_, rfl, ⟨rfl, rfl, rfl⟩, fun _ _ _ _ => rfl⟩ | exact ⟨_, rfl, ⟨rfl, rfl, .inl rfl⟩, rfl⟩ | exact ⟨_, rfl, ⟨rfl, rfl, .inr rfl⟩, rfl⟩ | exact ⟨_, rfl, ⟨rfl, rfl, rfl, rfl, rfl⟩, rfl⟩ | exact ⟨_, rfl, ⟨rfl, rfl⟩, fun _ => Iff.rfl⟩ | refine ⟨_, rfl, rfl, ?_⟩ | refine ⟨_, rfl, ⟨rfl, rfl, rfl⟩, ?_⟩))
          | fail
    · repeat' ((conv => whnf); first
        | refine CutN.plain ?_
        | with_reducible refine Br.tt ?_
        | with_reducible refine Br.ff ?_
        | with_reducible refine Br.nt ?_
        | with_reducible refine Br.nf ?_
        | with_reducible refine Br.eeI ?_
        | with_reducible refine Br.nnI ?_
        | refine Br.yes (by decide) ?_
        | refine Br.no (by decide) ?_
        | refine AppN.own ?_
        | refine Need.go rfl ?_
        | refine QuiD.quiet (by kernel_rfl) ?_
        | refine IdxN.lit ?_
        | refine draw_go tabOK (by kernel_rfl) ?_
        | refine Need.go ⟨rfl, rfl⟩ ?_
        | refine Need.go ⟨⟨rfl, rfl, rfl⟩, rfl⟩ ?_
        | (with_reducible refine Br.dec (fun h => ?_) (fun h => ?_); first | (rotate_left; exfalso; omega; clear h) | (exfalso; omega; clear h) | skip)
        | (with_reducible refine Br.eqI (fun h => ?_) (fun h => ?_); first | (rotate_left; exfalso; omega; clear h) | (exfalso; omega; clear h) | skip)
        | (with_reducible refine Br.neI (fun h => ?_) (fun h => ?_); first | (rotate_left; exfalso; omega; clear h) | (exfalso; omega; clear h) | skip)
        | (with_reducible refine Br.eqS (fun h => ?_) (fun h => ?_); first | (rotate_left; exfalso; omega; clear h) | (exfalso; omega; clear h) | skip)
        | (with_reducible refine Br.neS (fun h => ?_) (fun h => ?_); first | (rotate_left; exfalso; omega; clear h) | (exfalso; omega; clear h) | skip)
        | (with_reducible refine Br.nd (fun h => ?_) (fun h => ?_); first | (rotate_left; exfalso; omega; clear h) | (exfalso; omega; clear h) | skip)
        | refine Ar.i64 (by omega) (by omega) ?_
        | refine Need.go (by first | omega | decide | (simp <;> omega) | fail) ?_
        | refine Need.go (by first | (simp [Value.oneCell'] <;> omega) | fail) ?_
        | refine Need.go ⟨rfl, by omega, getD_one rfl rfl⟩ ?_
        | refine Need.go ⟨rfl, by omega, fun _ _ _ _ => rfl⟩ ?_
        | refine Br.both (fun h => ?_) (fun h => ?_))
      all_goals (conv => whnf)
      all_goals
        first | refine endc ?_ ⟨_, _, ⟨rfl, rfl⟩, by simp, ⟨rfl, rfl, trivial⟩, ⟨[some 0, some 1, some 2, some 3, some 4], ⟨by decide, rfl⟩, ?_, ?_⟩⟩ | refine endk ?_ ⟨_, _, ⟨rfl, rfl⟩, by simp, ⟨rfl, rfl, trivial⟩, ⟨[some 0, some 1, some 2, some 3, some 4], ⟨by decide, rfl⟩, ?_, ?_⟩⟩
        · exact congrArg Value.bool (mayM_yes fun j hj' => hj j (by omega)).symm
        all_goals repeat' (first | exact leT_junk rfl | refine And.intro ?_ ?_ | exact trivial | exact .inl ⟨rfl, rfl⟩ | rfl | exact .inr ⟨_, rfl, rfl, rfl⟩ | exact ⟨_, rfl, trivial⟩ | exact ⟨_, rfl, rfl⟩ | exact ⟨_, rfl, ⟨rfl, rfl, rfl⟩, fun _ _ _ _ => rfl⟩ | exact ⟨_, rfl, ⟨rfl, rfl, .inl rfl⟩, rfl⟩ | exact ⟨_, rfl, ⟨rfl, rfl, .inr rfl⟩, rfl⟩ | exact ⟨_, rfl, ⟨rfl, rfl, rfl, rfl, rfl⟩, rfl⟩ | exact ⟨_, rfl, ⟨rfl, rfl⟩, fun _ => Iff.rfl⟩ | refine ⟨_, rfl, rfl, ?_⟩ | refine ⟨_, rfl, ⟨rfl, rfl, rfl⟩, ?_⟩)
end Go.Proofs.Ytlphkjbadjdleaa
