/-
  The document's Same of two frames that are alike. No condition but the length.
-/
import Derived.Test.YtlphkjbadjdleaaFrS
import Derived.Test.YtlphkjbadjdleaaFrT
namespace Go.Proofs.Ytlphkjbadjdleaa
open Go.RowKit
section
variable {U : Nat → Prop}
theorem rfrGot_n {w0 : World} {U : Nat → Prop} {H : List HE} {K : SV → List HE → Prop} (s : List UInt8) (hs : s.length ≤ 700) (f : FrM) (er : Int) (hm : resG (getFr s) = (f, er))
    (hK : lenK H fun N => appK H (.own 145 2 f.ch.mem.length (memF f.ch.mem)) fun H' => K (.tup [frS f (.os N f.ch.mem.length), .v (.int .i64 er)]) H') : CallN Try.prog w0 U 42 [.v (S s)] H K :=
  call_ownL 145 2 f.ch.mem.length (memF f.ch.mem) (fun N => .tup [frS f (.os N f.ch.mem.length), .v (.int .i64 er)]) (fun v => .tuple #[frV f v, .int .i64 er]) (fun N ρ' v h => by subst h; rfl) (fun ρ w h => by have := rGet_any s hs w; unfold OutFE at this; rw [show (getFr s).getD frZ = f from congrArg Prod.fst hm, show (if (getFr s).isSome then (0 : Int) else 10) = er from congrArg Prod.snd hm] at this; exact this) hK
end
set_option maxRecDepth 100000 in
set_option maxHeartbeats 4000000 in
theorem rfrSame_eq (f : FrM) (p q : Value) (w : World) (hp : ChSl w p f.ch) (hq : ChSl w q f.ch) (hl : f.ch.mem.length ≤ 1000000) :
    Calls Try.prog 43 #[frV f p, frV f q] w fun e w' => e = .returned (.bool true) ∧ w.grownBy w' none := by
  obtain ⟨a, cap, rfl, h1, h2, hr⟩ := hp
  obtain ⟨a2, cap2, rfl, h12, h22, hr2⟩ := hq
  refine x_calls tabOK Try.func43 rfl [frS f (.rs 0 f.ch.mem.length cap), frS f (.rs 1 f.ch.mem.length cap2)] _ _ rfl rfl (relR2 hr hr2) ?_
  repeat' ((conv => whnf); first | refine Br.no (by first | (simp; done) | fail) ?_ | refine CutN.plain ?_ | refine Need.go rfl ?_)
  all_goals (conv => whnf)
  refine loop_up 33 (fun i : Nat => i ≤ f.ch.mem.length) (fun i => f.ch.mem.length - i) (fun i => [(4, .kb false), (5, .v (.int .i64 i))]) (fun _ => []) (fun _ => []) 0 (Nat.zero_le _) (by
    (conv => whnf)
    refine ⟨[some 0, some 1, some 2, some 3], by decide, ?_, ?_⟩
    all_goals repeat' (first | exact leT_junk rfl | refine And.intro ?_ ?_ | exact trivial | exact .inl ⟨rfl, rfl⟩ | rfl | exact .inr ⟨_, rfl, rfl, rfl⟩ | exact ⟨_, rfl, trivial⟩ | exact ⟨_, rfl, rfl⟩ | exact ⟨_, rfl, ⟨rfl, rfl, rfl⟩, fun _ _ _ _ => rfl⟩ | exact ⟨_, rfl, ⟨rfl, rfl, .inl rfl⟩, rfl⟩ | exact ⟨_, rfl, ⟨rfl, rfl, .inr rfl⟩, rfl⟩ | exact ⟨_, rfl, ⟨rfl, rfl, rfl, rfl, rfl⟩, rfl⟩ | exact ⟨_, rfl, ⟨rfl, rfl⟩, fun _ => Iff.rfl⟩ | refine ⟨_, rfl, rfl, ?_⟩)) (fun i hi => ?_)
  by_cases hin : i < f.ch.mem.length
  · repeat' ((conv => whnf); first | refine Br.no (by first | (simp; done) | fail) ?_ | refine CutN.plain ?_ | refine Need.go rfl ?_ | refine QuiD.quiet (by kernel_rfl) ?_ | refine Need.go ⟨rfl, rfl⟩ ?_ | (with_reducible refine Br.dec (fun h => ?_) (fun h => ?_); first | (rotate_left; exfalso; omega; clear h) | (exfalso; omega; clear h) | skip) | refine Ar.i64 (by omega) (by omega) ?_ | refine Need.go (by first | omega | decide | (simp <;> omega) | fail) ?_)
    all_goals (conv => whnf)
    refine ⟨i + 1, by omega, by omega, ?_⟩
    (conv => whnf)
    refine ⟨[some 0, some 1, some 2, some 3], by decide, ?_, ?_⟩
    all_goals repeat' (first | exact leT_junk rfl | refine And.intro ?_ ?_ | exact trivial | exact .inl ⟨rfl, rfl⟩ | rfl | exact .inr ⟨_, rfl, rfl, rfl⟩ | exact ⟨_, rfl, trivial⟩ | exact ⟨_, rfl, rfl⟩ | exact ⟨_, rfl, ⟨rfl, rfl, rfl⟩, fun _ _ _ _ => rfl⟩ | exact ⟨_, rfl, ⟨rfl, rfl, .inl rfl⟩, rfl⟩ | exact ⟨_, rfl, ⟨rfl, rfl, .inr rfl⟩, rfl⟩ | exact ⟨_, rfl, ⟨rfl, rfl, rfl, rfl, rfl⟩, rfl⟩ | exact ⟨_, rfl, ⟨rfl, rfl⟩, fun _ => Iff.rfl⟩ | refine ⟨_, rfl, rfl, ?_⟩)
  · repeat' ((conv => whnf); first | refine Br.no (by first | (simp; done) | fail) ?_ | refine Br.yes (by first | (simp; done) | fail) ?_ | refine CutN.plain ?_ | refine Need.go rfl ?_ | refine Need.go ⟨rfl, rfl⟩ ?_ | (with_reducible refine Br.dec (fun h => ?_) (fun h => ?_); first | (rotate_left; exfalso; omega; clear h) | (exfalso; omega; clear h) | skip))
    all_goals (conv => whnf)
    exact ret_pure (fun _ => congrArg Value.bool (by simp))
end Go.Proofs.Ytlphkjbadjdleaa
