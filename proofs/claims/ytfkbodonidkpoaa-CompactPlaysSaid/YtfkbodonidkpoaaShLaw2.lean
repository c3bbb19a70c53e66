/-
  The law's Doc, great, Entries. No condition.
-/
import Derived.Test.YtfkbodonidkpoaaPV
import Derived.Test.YtfkbodonidkpoaaPU
import Derived.Test.YtfkbodonidkpoaaSh5
import Derived.Test.YtfkbodonidkpoaaQ7
namespace Go.Proofs.Ytfkbodonidkpoaa
open Go.RowKit
set_option maxRecDepth 100000 in
set_option maxHeartbeats 4000000 in
theorem doc_any (s : ShM) (p q : Value) (w : World) (hp : CelSl w p s) (hq : LasSl w q s) (hs : SmallS s) :
    Calls Try.prog 40 #[shV s p q] w fun e w' => ∃ v1 v2, e = .returned (shV s v1 v2) ∧ w'.ownsRow w.heap.size 128 3 v1 s.cells.length (cellsF 3 (celF s.cells) s.cells.length) ∧ w'.ownsRow w.heap.size 100 6 v2 s.lasts.length (cellsF 6 (laF s.lasts) s.lasts.length) ∧ (∀ b, v1.ownBlock = some b → v2.ownBlock ≠ some b) ∧ w.grownBy w' none := by
  obtain ⟨a, cap, rfl, h1, h2, hr⟩ := hp
  obtain ⟨a2, cap2, rfl, h3, h4, hr2⟩ := hq
  have hc := hs.c
  have hl := hs.l
  refine x_calls tabOK Try.func40 rfl [shS s (.rs 0 s.cells.length cap) (.rs 1 s.lasts.length cap2)] _ _ rfl rfl (relR2 hr hr2) ?_
  repeat' ((conv => whnf); first | refine CutN.plain ?_ | refine Need.go rfl ?_)
  all_goals (conv => whnf)
  refine loop_up 9 (fun k : Nat => k ≤ s.cells.length) (fun k => s.cells.length - k) (fun k => [(4, .v (.int .i64 k))]) (fun k => [(4, .ent (.blk 53 [.v (.int .i64 s.index), .os 5 k, .v (.slice none 0 0)]))]) (fun k => [.own 128 3 k (celF s.cells)]) 0 (Nat.zero_le _) (by
    (conv => whnf)
    refine ⟨[some 0, some 1, some 2, some 3, some 4, none], by decide, ?_, ?_⟩
    all_goals repeat' (first | exact leT_junk rfl | refine And.intro ?_ ?_ | exact trivial | exact .inl ⟨rfl, rfl⟩ | rfl | exact .inr ⟨_, rfl, rfl, rfl⟩ | exact ⟨_, rfl, trivial⟩ | exact ⟨_, rfl, rfl⟩ | exact ⟨_, rfl, ⟨rfl, rfl, rfl⟩, fun _ _ _ _ => rfl⟩ | exact ⟨_, rfl, ⟨rfl, rfl, .inl rfl⟩, rfl⟩ | exact ⟨_, rfl, ⟨rfl, rfl, .inr rfl⟩, rfl⟩ | exact ⟨_, rfl, ⟨rfl, rfl, rfl, rfl, rfl⟩, rfl⟩ | exact ⟨_, rfl, ⟨rfl, rfl⟩, fun _ => Iff.rfl⟩ | refine ⟨_, rfl, rfl, ?_⟩)) (fun k hk => ?_)
  by_cases hlt : k < s.cells.length
  · repeat' ((conv => whnf); first | refine CutN.plain ?_ | refine Need.go rfl ?_ | refine draw_go tabOK (by kernel_rfl) ?_ | (with_reducible refine Br.dec (fun h => ?_) (fun h => ?_); first | (rotate_left; exfalso; omega; clear h) | (exfalso; omega; clear h) | skip) | refine Ar.i64 (by omega) (by omega) ?_ | refine Need.go (by first | omega | decide | (simp <;> omega) | fail) ?_ | refine Need.go ⟨rfl, by omega, getD_one rfl rfl⟩ ?_)
    all_goals (conv => whnf)
    refine ⟨k + 1, by omega, by omega, ?_⟩
    (conv => whnf)
    refine ⟨[some 0, some 1, some 2, some 3, some 4, some 7], by decide, ?_, ?_⟩
    all_goals repeat' (first | exact ⟨_, rfl, ⟨rfl, rfl, rfl⟩, celF_one' (fun c hc => by rcases c with _ | _ | _ | c <;> first | rfl | omega)⟩ | exact leT_junk rfl | refine And.intro ?_ ?_ | exact trivial | exact .inl ⟨rfl, rfl⟩ | rfl | exact .inr ⟨_, rfl, rfl, rfl⟩ | exact ⟨_, rfl, trivial⟩ | exact ⟨_, rfl, rfl⟩ | exact ⟨_, rfl, ⟨rfl, rfl, rfl⟩, fun _ _ _ _ => rfl⟩ | exact ⟨_, rfl, ⟨rfl, rfl, .inl rfl⟩, rfl⟩ | exact ⟨_, rfl, ⟨rfl, rfl, .inr rfl⟩, rfl⟩ | exact ⟨_, rfl, ⟨rfl, rfl, rfl, rfl, rfl⟩, rfl⟩ | exact ⟨_, rfl, ⟨rfl, rfl⟩, fun _ => Iff.rfl⟩ | refine ⟨_, rfl, rfl, ?_⟩)
  · obtain rfl : k = s.cells.length := by omega
    repeat' ((conv => whnf); first | refine CutN.plain ?_ | refine Need.go rfl ?_ | (with_reducible refine Br.dec (fun h => ?_) (fun h => ?_); first | (rotate_left; exfalso; omega; clear h) | (exfalso; omega; clear h) | skip))
    all_goals (conv => whnf)
    refine loop_up 26 (fun k : Nat => k ≤ s.lasts.length) (fun k => s.lasts.length - k) (fun k => [(5, .v (.int .i64 k))]) (fun k => [(4, .ent (.blk 53 [.v (.int .i64 s.index), .os 5 s.cells.length, .os 6 k]))]) (fun k => [.own 100 6 k (laF s.lasts)]) 0 (Nat.zero_le _) (by
      (conv => whnf)
      refine ⟨[some 0, some 1, some 2, some 3, some 4, some 5, none], by decide, ?_, ?_⟩
      all_goals repeat' (first | exact leT_junk rfl | refine And.intro ?_ ?_ | exact trivial | exact .inl ⟨rfl, rfl⟩ | rfl | exact .inr ⟨_, rfl, rfl, rfl⟩ | exact ⟨_, rfl, trivial⟩ | exact ⟨_, rfl, rfl⟩ | exact ⟨_, rfl, ⟨rfl, rfl, rfl⟩, fun _ _ _ _ => rfl⟩ | exact ⟨_, rfl, ⟨rfl, rfl, .inl rfl⟩, rfl⟩ | exact ⟨_, rfl, ⟨rfl, rfl, .inr rfl⟩, rfl⟩ | exact ⟨_, rfl, ⟨rfl, rfl, rfl, rfl, rfl⟩, rfl⟩ | exact ⟨_, rfl, ⟨rfl, rfl⟩, fun _ => Iff.rfl⟩ | refine ⟨_, rfl, rfl, ?_⟩)) (fun k hk => ?_)
    by_cases hlt : k < s.lasts.length
    · repeat' ((conv => whnf); first | refine CutN.plain ?_ | refine Need.go rfl ?_ | refine draw_go tabOK (by kernel_rfl) ?_ | (with_reducible refine Br.dec (fun h => ?_) (fun h => ?_); first | (rotate_left; exfalso; omega; clear h) | (exfalso; omega; clear h) | skip) | refine Ar.i64 (by omega) (by omega) ?_ | refine Need.go (by first | omega | decide | (simp <;> omega) | fail) ?_ | refine Need.go ⟨rfl, by omega, getD_one rfl rfl⟩ ?_)
      all_goals (conv => whnf)
      refine ⟨k + 1, by omega, by omega, ?_⟩
      (conv => whnf)
      refine ⟨[some 0, some 1, some 2, some 3, some 4, some 5, some 8], by decide, ?_, ?_⟩
      all_goals repeat' (first | exact ⟨_, rfl, ⟨rfl, rfl, rfl⟩, rowsApp_one (fun _ _ _ _ => rfl) (fun c hc => by rcases c with _ | _ | _ | _ | _ | _ | c <;> first | rfl | omega)⟩ | exact leT_junk rfl | refine And.intro ?_ ?_ | exact trivial | exact .inl ⟨rfl, rfl⟩ | rfl | exact .inr ⟨_, rfl, rfl, rfl⟩ | exact ⟨_, rfl, trivial⟩ | exact ⟨_, rfl, rfl⟩ | exact ⟨_, rfl, ⟨rfl, rfl, rfl⟩, fun _ _ _ _ => rfl⟩ | exact ⟨_, rfl, ⟨rfl, rfl, .inl rfl⟩, rfl⟩ | exact ⟨_, rfl, ⟨rfl, rfl, .inr rfl⟩, rfl⟩ | exact ⟨_, rfl, ⟨rfl, rfl, rfl, rfl, rfl⟩, rfl⟩ | exact ⟨_, rfl, ⟨rfl, rfl⟩, fun _ => Iff.rfl⟩ | refine ⟨_, rfl, rfl, ?_⟩)
    · obtain rfl : k = s.lasts.length := by omega
      repeat' ((conv => whnf); first | refine CutN.plain ?_ | refine Need.go rfl ?_ | (with_reducible refine Br.dec (fun h => ?_) (fun h => ?_); first | (rotate_left; exfalso; omega; clear h) | (exfalso; omega; clear h) | skip))
      all_goals (conv => whnf)
      exact fun ρ' w' h => ⟨(SV.os 5 _).den ρ', (SV.os 6 _).den ρ', rfl, own_out (i := 5) h rfl, own_out (i := 6) h rfl, fun b hb hb2 => by
        obtain ⟨a, ha, hab⟩ := os_block hb
        obtain ⟨a2, ha2, hab2⟩ := os_block hb2
        exact h.at.dis 5 6 _ _ (by decide) (getH_own rfl) trivial (getH_own rfl) trivial b ⟨a, ha, hab⟩ ⟨a2, ha2, hab2⟩, fr_none h.at.fr⟩
theorem docS_n {w0 : World} {U : Nat → Prop} {H : List HE} {K : SV → List HE → Prop} (s : ShM) (p q : SV) (hp : ∀ ρ w, HRel w0 U ρ H w → CelSl w (p.den ρ) s) (hq : ∀ ρ w, HRel w0 U ρ H w → LasSl w (q.den ρ) s) (hs : SmallS s)
    (hK : lenK H fun N => appK H (.own 128 3 s.cells.length (celF s.cells)) fun H' => appK H' (.own 100 6 s.lasts.length (laF s.lasts)) fun H'' => K (shS s (.os N s.cells.length) (.os (N + 1) s.lasts.length)) H'') :
    CallN Try.prog w0 U 40 [shS s p q] H K :=
  call_own2 _ _ _ _ _ _ _ _ (fun N => shS s (.os N s.cells.length) (.os (N + 1) s.lasts.length)) (fun v v2 => shV s v v2) (fun N ρ' v v2 h1 h2 => by subst h1 h2; rfl) (fun ρ w hr => doc_any s (p.den ρ) (q.den ρ) w (hp ρ w hr) (hq ρ w hr) hs) hK
/-- Is a shot more than is gone through here? -/
def smC (l : List KC) (i : Nat) : Bool := decide ((l.getD i celZ).1.length ≤ 100) && decide ((l.getD i celZ).2.1.length ≤ 100)
def smL (l : List LaM) (i : Nat) : Bool := decide ((l.getD i laZ).res.value.length ≤ 100)
def greatS (s : ShM) : Bool := !(allTo (smC s.cells) s.cells.length && allTo (smL s.lasts) s.lasts.length) || (decide (20 < s.cells.length) || decide (10 < s.lasts.length))
/-- Are entries more than is gone through here? -/
def smE (l : List EntM) (i : Nat) : Bool := decide ((l.getD i entZ).op.key.length ≤ 100) && decide ((l.getD i entZ).op.value.length ≤ 100)
def greatE (l : List EntM) (most : Int) : Bool := !(allTo (smE l) l.length) || decide (most < l.length)
theorem greatE_c {l : List EntM} {most : Int} {i : Nat} (hi : i < l.length) (h : smE l i = false) : greatE l most = true := by
  unfold greatE; rw [allTo_no hi h]; rfl
set_option maxRecDepth 100000 in
set_option maxHeartbeats 4000000 in
theorem entries27_any (l : List EntM) (most : Int) (p : Value) (w : World) (hp : SliceV w p 7 l.length (entF l)) :
    Calls Try.prog 23 #[p, .int .i64 most] w fun e w' => e = .returned (.bool (greatE l most)) ∧ w.grownBy w' none := by
  obtain ⟨a, cap, rfl, h1, h2, hr⟩ := hp
  have h2' : cap ≤ 9223372036854775807 := h2
  refine x_calls tabOK Try.func23 rfl [.rs 0 l.length cap, .v (.int .i64 most)] _ _ rfl rfl (relR1 hr) ?_
  repeat' ((conv => whnf); first | refine CutN.plain ?_)
  all_goals (conv => whnf)
  refine loop_up 6 (fun k : Nat => k ≤ l.length ∧ allTo (smE l) k = true) (fun k => l.length - k) (fun k => [(5, .v (.int .i64 k))]) (fun _ => []) (fun _ => []) 0 ⟨Nat.zero_le _, rfl⟩ (by
    (conv => whnf)
    refine ⟨[some 0], by decide, ?_, ?_⟩
    all_goals repeat' (first | exact leT_junk rfl | refine And.intro ?_ ?_ | exact trivial | exact .inl ⟨rfl, rfl⟩ | rfl | exact .inr ⟨_, rfl, rfl, rfl⟩ | exact ⟨_, rfl, trivial⟩ | exact ⟨_, rfl, rfl⟩)) (fun k hk => ?_)
  obtain ⟨hk, hsa⟩ := hk
  by_cases hlt : k < l.length
  · repeat' ((conv => whnf); first | refine CutN.plain ?_ | refine Need.go rfl ?_ | (with_reducible refine Br.dec (fun h => ?_) (fun h => ?_); first | (rotate_left; exfalso; omega; clear h) | (exfalso; omega; clear h) | skip) | refine Ar.i64 (by omega) (by omega) ?_ | refine Need.go (by first | omega | decide | (simp <;> omega) | fail) ?_)
    all_goals (conv => whnf)
    all_goals (try simp only [Int.toNat_natCast] at *)
    all_goals first
      | (refine ret_pure (fun _ => ?_)
         rw [greatE_c hlt (by unfold smE; simp only [Bool.and_eq_false_iff, decide_eq_false_iff_not]; omega)]
         rfl)
      | (refine ⟨k + 1, ⟨by omega, by rw [allTo_succ, hsa]; unfold smE; simp only [Bool.true_and, Bool.and_eq_true, decide_eq_true_eq]; omega⟩, by omega, ?_⟩
         (conv => whnf)
         refine ⟨[some 0], by decide, ?_, ?_⟩
         all_goals repeat' (first | exact leT_junk rfl | refine And.intro ?_ ?_ | exact trivial | exact .inl ⟨rfl, rfl⟩ | rfl | exact .inr ⟨_, rfl, rfl, rfl⟩ | exact ⟨_, rfl, trivial⟩ | exact ⟨_, rfl, rfl⟩))
  · obtain rfl : k = l.length := by omega
    repeat' ((conv => whnf); first | refine CutN.plain ?_ | refine Need.go rfl ?_ | (with_reducible refine Br.dec (fun h => ?_) (fun h => ?_); first | (rotate_left; exfalso; omega; clear h) | (exfalso; omega; clear h) | skip))
    all_goals (conv => whnf)
    all_goals
      refine ret_pure (fun _ => ?_)
      unfold greatE
      rw [hsa]
      rfl
end Go.Proofs.Ytfkbodonidkpoaa
