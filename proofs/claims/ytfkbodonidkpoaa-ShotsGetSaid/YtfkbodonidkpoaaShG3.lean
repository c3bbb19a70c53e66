/-
  The shot of bytes: the document's Get. Condition: the bytes are not too long for a machine.
-/
import Derived.Test.YtfkbodonidkpoaaShG2
import Derived.Test.YtfkbodonidkpoaaShR7
namespace Go.Proofs.Ytfkbodonidkpoaa
open Go.RowKit
theorem runint_v (l : List UInt8) (w : World) (h : l.length ≤ 1000000) : Calls Try.prog 110 #[S l] w fun e w' => e = .returned (.tuple #[.int .i64 (nI l), S (rI l), .bool (oI l)]) ∧ w.grownBy w' none := by
  have := runint_any l w (by omega)
  rwa [show utV (unintB l) = .tuple #[.int .i64 (nI l), S (rI l), .bool (oI l)] by unfold nI rI oI; cases unintB l <;> rfl] at this
theorem rcut_v (l : List UInt8) (w : World) (h : l.length ≤ 1000000) : Calls Try.prog 111 #[S l] w fun e w' => e = .returned (.tuple #[S (nT l), S (rT l), .bool (oT l)]) ∧ w.grownBy w' none := by
  have := rcut_any l w (by omega)
  rwa [show ctV (cutB l) = .tuple #[S (nT l), S (rT l), .bool (oT l)] by unfold nT rT oT; cases cutB l <;> rfl] at this
set_option maxRecDepth 100000 in
set_option maxHeartbeats 16000000 in
theorem rshGet_any (t : List UInt8) (ht : t.length ≤ 10000) (w : World) : Calls Try.prog 63 #[S t] w (OutG 128 100 w (getS' t)) := by
  rw [← rgetS_eq t (by omega)]
  refine x_calls tabOK Try.func63 rfl [.v (S t)] [] _ rfl rfl (rel0 w) ?_
  have l1 := rI_len t
  have l2 := rI_len (rI t)
  have hn1 := nI_hi (rI t)
  obtain ⟨b1, hB1⟩ : ∃ b, oI (rI t) = b := ⟨_, rfl⟩
  have hU : ∀ w, Calls Try.prog 110 #[S (rI t)] w fun e w' => e = .returned (.tuple #[.int .i64 (nI (rI t)), S (rI (rI t)), .bool b1]) ∧ w.grownBy w' none := fun w => by
    have := runint_v (rI t) w (by omega); rwa [hB1] at this
  repeat' ((conv => whnf); first | refine CutN.plain ?_ | refine Need.go rfl ?_ | (refine call_mem (f := 110) (args := [.v (S t)]) (V := .tuple #[.int .i64 (nI t), S (rI t), .bool (oI t)]) ?_ ?_; exact fun ρ w h => runint_v t w (by omega)) | (refine call_mem (f := 110) (args := [.v (S (rI t))]) (V := .tuple #[.int .i64 (nI (rI t)), S (rI (rI t)), .bool b1]) ?_ ?_; exact fun ρ w h => hU w))
  all_goals (conv => whnf)
  refine loop_up 31 (fun x : List KC × List UInt8 × Bool => ManyI cellG cellR cellO (nI (rI t)).toNat 10000 (rI (rI t)) b1 x.1 x.2.1 x.2.2) (fun x => if x.2.2 then x.2.1.length + 1 else 0) (fun x => [(6, .v (S x.2.1)), (9, .v (.bool x.2.2)), (10, .v (.int .i64 x.1.length)), (11, .junk)])
    (fun x => [(1, .ent (.blk 53 [.v (.int .i64 (nI t)), .os 2 x.1.length, .v (.slice none 0 0)]))]) (fun x => [.own 128 3 x.1.length (celF x.1)]) ([], rI (rI t), b1) (many_zero _ _ _ _ _ (by omega)) (by
    (conv => whnf)
    refine ⟨[some 0, some 1, none], by decide, ?_, ?_⟩
    all_goals repeat' (first | exact leT_junk rfl | refine And.intro ?_ ?_ | exact trivial | exact .inl ⟨rfl, rfl⟩ | rfl | exact .inr ⟨_, rfl, rfl, rfl⟩ | exact ⟨_, rfl, trivial⟩ | exact ⟨_, rfl, rfl⟩ | exact ⟨_, rfl, ⟨rfl, rfl, rfl⟩, fun _ _ _ _ => rfl⟩ | exact ⟨_, rfl, ⟨rfl, rfl, .inl rfl⟩, rfl⟩ | exact ⟨_, rfl, ⟨rfl, rfl, .inr rfl⟩, rfl⟩ | exact ⟨_, rfl, ⟨rfl, rfl, rfl, rfl, rfl⟩, rfl⟩ | exact ⟨_, rfl, ⟨rfl, rfl⟩, fun _ => Iff.rfl⟩ | refine ⟨_, rfl, rfl, ?_⟩)) (fun x hx => ?_)
  obtain ⟨cs, l, ok⟩ := x
  have hlen := hx.len
  simp only at hx hlen
  dsimp only
  by_cases hgo : ok = true ∧ cs.length < (nI (rI t)).toNat
  · obtain ⟨rfl, hlt⟩ := hgo
    simp only [if_true] at hlen
    have hnx := many_next cellR_no (fun l => cellR_lt) hx hlt
    have m1 := rT_len l
    have m2 := rT_len (rT l)
    repeat' ((conv => whnf); first | refine CutN.plain ?_ | with_reducible refine Br.tt ?_ | refine Need.go rfl ?_ | (with_reducible refine Br.dec (fun h => ?_) (fun h => ?_); first | (rotate_left; exfalso; omega; clear h) | (exfalso; omega; clear h) | skip) | refine Ar.i64 (by omega) (by omega) ?_ | (refine call_mem (f := 111) (args := [.v (S l)]) (V := .tuple #[S (nT l), S (rT l), .bool (oT l)]) ?_ ?_; exact fun ρ w h => rcut_v l w (by omega)) | (refine call_mem (f := 111) (args := [.v (S (rT l))]) (V := .tuple #[S (nT (rT l)), S (rT (rT l)), .bool (oT (rT l))]) ?_ ?_; exact fun ρ w h => rcut_v (rT l) w (by omega)) | (refine call_mem (f := 110) (args := [.v (S (rT (rT l)))]) (V := .tuple #[.int .i64 (nI (rT (rT l))), S (rI (rT (rT l))), .bool (oI (rT (rT l)))]) ?_ ?_; exact fun ρ w h => runint_v (rT (rT l)) w (by omega)) | refine Need.go (by first | omega | decide | (simp <;> omega) | fail) ?_ | refine Need.go ⟨rfl, by omega, getD_one rfl rfl⟩ ?_)
    all_goals (conv => whnf)
    refine ⟨(cs ++ [cellG l], cellR l, cellO l), hnx, ?_, ?_⟩
    · dsimp only
      rcases ho : cellO l with _ | _
      · simp
      · have := cellR_lt ho
        simp; omega
    have e1 : (cs ++ [cellG l]).length = cs.length + 1 := by simp
    dsimp only
    rw [e1]
    (conv => whnf)
    refine ⟨[some 0, some 1, some 5], by decide, ?_, ?_⟩
    all_goals repeat' (first | exact leI' (by omega) | exact celF_snoc _ (cellG l) | exact ⟨_, rfl, ⟨rfl, rfl, rfl⟩, celF_snoc _ (cellG l)⟩ | exact leT_junk rfl | refine And.intro ?_ ?_ | exact trivial | exact .inl ⟨rfl, rfl⟩ | rfl | exact .inr ⟨_, rfl, rfl, rfl⟩ | exact ⟨_, rfl, trivial⟩ | exact ⟨_, rfl, rfl⟩ | exact ⟨_, rfl, ⟨rfl, rfl, rfl⟩, fun _ _ _ _ => rfl⟩ | exact ⟨_, rfl, ⟨rfl, rfl, .inl rfl⟩, rfl⟩ | exact ⟨_, rfl, ⟨rfl, rfl, .inr rfl⟩, rfl⟩ | exact ⟨_, rfl, ⟨rfl, rfl, rfl, rfl, rfl⟩, rfl⟩ | exact ⟨_, rfl, ⟨rfl, rfl⟩, fun _ => Iff.rfl⟩ | refine ⟨_, rfl, rfl, ?_⟩)
  · have hend := many_end hx (by rcases ok with _ | _; exact .inl rfl; exact .inr (Nat.not_lt.1 fun h => hgo ⟨rfl, h⟩))
    have hL : l.length ≤ 10001 ∧ cs.length ≤ 10001 := by rcases ok <;> simp at hlen <;> omega
    have hn0 : ok = true → nI (rI t) ≤ (cs.length : Int) := fun h => by
      have : ¬ cs.length < (nI (rI t)).toNat := fun h' => hgo ⟨h, h'⟩
      omega
    obtain ⟨hL1, hL2⟩ := hL
    have l3 := rI_len l
    obtain ⟨b2, hB2⟩ : ∃ b, oI l = b := ⟨_, rfl⟩
    have hU2 : ∀ w, Calls Try.prog 110 #[S l] w fun e w' => e = .returned (.tuple #[.int .i64 (nI l), S (rI l), .bool b2]) ∧ w.grownBy w' none := fun w => by
      have := runint_v l w (by omega); rwa [hB2] at this
    have hr : ∀ (ls : List LaM) (m : List UInt8) (k : Bool), lastsG (nI l).toNat (rI l) b2 = (ls, m, k) → (readS t).s = ⟨nI t, cs, ls⟩ := fun ls m k h => by
      unfold readS
      dsimp only
      rw [hB1, show cellsG (nI (rI t)).toNat (rI (rI t)) b1 = (cs, l, ok) from hend]
      dsimp only
      rw [hB2, h]
    clear hlen hx hgo hend
    rcases ok with _ | _
    case' true => have hn0 := hn0 rfl
    all_goals
      repeat' ((conv => whnf); first | refine CutN.plain ?_ | with_reducible refine Br.ff ?_ | refine Need.go rfl ?_ | (with_reducible refine Br.dec (fun h => ?_) (fun h => ?_); first | (rotate_left; exfalso; omega; clear h) | (exfalso; omega; clear h) | skip) | (refine call_mem (f := 110) (args := [.v (S l)]) (V := .tuple #[.int .i64 (nI l), S (rI l), .bool b2]) ?_ ?_; exact fun ρ w h => hU2 w))
    all_goals (conv => whnf)
    all_goals
      refine loop_up 73 (fun x : List LaM × List UInt8 × Bool => ManyI lastG lastR lastO (nI l).toNat 20000 (rI l) b2 x.1 x.2.1 x.2.2) (fun x => if x.2.2 then x.2.1.length + 1 else 0) (fun x => [(6, .v (S x.2.1)), (9, .v (.bool x.2.2)), (12, .v (.int .i64 x.1.length)), (13, .junk)])
        (fun x => [(1, .ent (.blk 53 [.v (.int .i64 (nI t)), .os 2 cs.length, .os 3 x.1.length]))]) (fun x => [.own 100 6 x.1.length (laF x.1)]) ([], rI l, b2) (many_zero _ _ _ _ _ (by omega)) (by
        (conv => whnf)
        refine ⟨[some 0, some 1, some 2, none], by decide, ?_, ?_⟩
        all_goals repeat' (first | exact leT_junk rfl | refine And.intro ?_ ?_ | exact trivial | exact .inl ⟨rfl, rfl⟩ | rfl | exact .inr ⟨_, rfl, rfl, rfl⟩ | exact ⟨_, rfl, trivial⟩ | exact ⟨_, rfl, rfl⟩ | exact ⟨_, rfl, ⟨rfl, rfl, rfl⟩, fun _ _ _ _ => rfl⟩ | exact ⟨_, rfl, ⟨rfl, rfl, .inl rfl⟩, rfl⟩ | exact ⟨_, rfl, ⟨rfl, rfl, .inr rfl⟩, rfl⟩ | exact ⟨_, rfl, ⟨rfl, rfl, rfl, rfl, rfl⟩, rfl⟩ | exact ⟨_, rfl, ⟨rfl, rfl⟩, fun _ => Iff.rfl⟩ | refine ⟨_, rfl, rfl, ?_⟩)) (fun x hx => ?_)
      obtain ⟨ls, m, k⟩ := x
      have hlen := hx.len
      simp only at hx hlen
      dsimp only
      by_cases hgo : k = true ∧ ls.length < (nI l).toNat
      · obtain ⟨rfl, hlt⟩ := hgo
        simp only [if_true] at hlen
        have hnx := many_next lastR_no (fun l => lastR_lt) hx hlt
        have m1 := rI_len m
        have m2 := rI_len (rI m)
        have m3 := rI_len (rI (rI m))
        have m4 := rT_len (rI (rI (rI m)))
        have m5 := rI_len (rT (rI (rI (rI m))))
        repeat' ((conv => whnf); first | refine CutN.plain ?_ | with_reducible refine Br.tt ?_ | refine Need.go rfl ?_ | (with_reducible refine Br.dec (fun h => ?_) (fun h => ?_); first | (rotate_left; exfalso; omega; clear h) | (exfalso; omega; clear h) | skip) | refine Ar.i64 (by omega) (by omega) ?_ | (refine call_mem (f := 110) (args := [.v (S m)]) (V := .tuple #[.int .i64 (nI m), S (rI m), .bool (oI m)]) ?_ ?_; exact fun ρ w h => runint_v m w (by omega)) | (refine call_mem (f := 110) (args := [.v (S (rI m))]) (V := .tuple #[.int .i64 (nI (rI m)), S (rI (rI m)), .bool (oI (rI m))]) ?_ ?_; exact fun ρ w h => runint_v (rI m) w (by omega)) | (refine call_mem (f := 110) (args := [.v (S (rI (rI m)))]) (V := .tuple #[.int .i64 (nI (rI (rI m))), S (rI (rI (rI m))), .bool (oI (rI (rI m)))]) ?_ ?_; exact fun ρ w h => runint_v (rI (rI m)) w (by omega)) | (refine call_mem (f := 111) (args := [.v (S (rI (rI (rI m))))]) (V := .tuple #[S (nT (rI (rI (rI m)))), S (rT (rI (rI (rI m)))), .bool (oT (rI (rI (rI m))))]) ?_ ?_; exact fun ρ w h => rcut_v (rI (rI (rI m))) w (by omega)) | (refine call_mem (f := 110) (args := [.v (S (rT (rI (rI (rI m)))))]) (V := .tuple #[.int .i64 (nI (rT (rI (rI (rI m))))), S (rI (rT (rI (rI (rI m))))), .bool (oI (rT (rI (rI (rI m)))))]) ?_ ?_; exact fun ρ w h => runint_v (rT (rI (rI (rI m)))) w (by omega)) | (refine call_mem (f := 110) (args := [.v (S (rI (rT (rI (rI (rI m))))))]) (V := .tuple #[.int .i64 (nI (rI (rT (rI (rI (rI m)))))), S (rI (rI (rT (rI (rI (rI m)))))), .bool (oI (rI (rT (rI (rI (rI m))))))]) ?_ ?_; exact fun ρ w h => runint_v (rI (rT (rI (rI (rI m))))) w (by omega)) | refine Need.go (by first | omega | decide | (simp <;> omega) | fail) ?_ | refine Need.go ⟨rfl, by omega, getD_one rfl rfl⟩ ?_)
        all_goals (conv => whnf)
        refine ⟨(ls ++ [lastG m], lastR m, lastO m), hnx, ?_, ?_⟩
        · dsimp only
          rcases ho : lastO m with _ | _
          · simp
          · have := lastR_lt ho
            simp; omega
        have e1 : (ls ++ [lastG m]).length = ls.length + 1 := by simp
        dsimp only
        rw [e1]
        (conv => whnf)
        refine ⟨[some 0, some 1, some 2, some 6], by decide, ?_, ?_⟩
        all_goals repeat' (first | exact leI' (by omega) | exact laF_snoc _ (lastG m) | exact ⟨_, rfl, ⟨rfl, rfl, rfl⟩, laF_snoc _ (lastG m)⟩ | exact leT_junk rfl | refine And.intro ?_ ?_ | exact trivial | exact .inl ⟨rfl, rfl⟩ | rfl | exact .inr ⟨_, rfl, rfl, rfl⟩ | exact ⟨_, rfl, trivial⟩ | exact ⟨_, rfl, rfl⟩ | exact ⟨_, rfl, ⟨rfl, rfl, rfl⟩, fun _ _ _ _ => rfl⟩ | exact ⟨_, rfl, ⟨rfl, rfl, .inl rfl⟩, rfl⟩ | exact ⟨_, rfl, ⟨rfl, rfl, .inr rfl⟩, rfl⟩ | exact ⟨_, rfl, ⟨rfl, rfl, rfl, rfl, rfl⟩, rfl⟩ | exact ⟨_, rfl, ⟨rfl, rfl⟩, fun _ => Iff.rfl⟩ | refine ⟨_, rfl, rfl, ?_⟩)
      · have hend := many_end hx (by rcases k with _ | _; exact .inl rfl; exact .inr (Nat.not_lt.1 fun h => hgo ⟨rfl, h⟩))
        have hM : m.length ≤ 20001 ∧ ls.length ≤ 20001 := by rcases k <;> simp at hlen <;> omega
        have hm0 : k = true → nI l ≤ (ls.length : Int) := fun h => by
          have : ¬ ls.length < (nI l).toNat := fun h' => hgo ⟨h, h'⟩
          omega
        have hg : rgetS t = if chkS ⟨nI t, cs, ls⟩ = true ∧ putSB ⟨nI t, cs, ls⟩ = t then (⟨nI t, cs, ls⟩, 0) else (shZ, 10) := by
          unfold rgetS
          rw [hr ls m k hend]
        clear hlen hx hgo hend hr hn0 hB1 hB2 hU hU2
        have hs : SmallS ⟨nI t, cs, ls⟩ := ⟨by show cs.length ≤ _; omega, by show ls.length ≤ _; omega⟩
        rcases hck : chkS ⟨nI t, cs, ls⟩ with _ | _
        · have hp : putS ⟨nI t, cs, ls⟩ = ([], 2) := by unfold putS; rw [hck]; rfl
          rw [if_neg (fun h => by rw [hck] at h; cases h.1)] at hg
          rcases k with _ | _
          case' true => have hm0 := hm0 rfl
          all_goals
            repeat' ((conv => whnf); first | refine CutN.plain ?_ | with_reducible refine Br.ff ?_ | refine Br.yes (by decide) ?_ | refine Need.go rfl ?_ | (with_reducible refine Br.dec (fun h => ?_) (fun h => ?_); first | (rotate_left; exfalso; omega; clear h) | (exfalso; omega; clear h) | skip) | (refine call_mem (f := 50) (args := [shS ⟨nI t, cs, ls⟩ (.os 2 cs.length) (.os 3 ls.length)]) (V := .tuple #[S [], .int .i64 2]) ?_ ?_; exact fun ρ w h => (by have := rshPut_any ⟨nI t, cs, ls⟩ _ _ w (sl_os h (i := 2) rfl) (sl_os h (i := 3) rfl) hs; rw [hp] at this; exact this)))
            all_goals (conv => whnf)
            all_goals exact fun ρ' w' h => outG_nil (fr_none h.at.fr) hg
        · have hp : putS ⟨nI t, cs, ls⟩ = (putSB ⟨nI t, cs, ls⟩, 0) := by unfold putS; rw [hck]; rfl
          by_cases hpt : putSB ⟨nI t, cs, ls⟩ = t
          · rw [if_pos ⟨hck, hpt⟩] at hg
            rw [hpt] at hp
            rcases k with _ | _
            case' true => have hm0 := hm0 rfl
            all_goals
              repeat' ((conv => whnf); first | refine CutN.plain ?_ | with_reducible refine Br.ff ?_ | with_reducible refine Br.nnI ?_ | refine Need.go rfl ?_ | (with_reducible refine Br.dec (fun h => ?_) (fun h => ?_); first | (rotate_left; exfalso; omega; clear h) | (exfalso; omega; clear h) | skip) | (with_reducible refine Br.neS (fun h => ?_) (fun h => ?_); first | (rotate_left; exfalso; omega; clear h) | (exfalso; omega; clear h) | skip) | (refine call_mem (f := 50) (args := [shS ⟨nI t, cs, ls⟩ (.os 2 cs.length) (.os 3 ls.length)]) (V := .tuple #[S t, .int .i64 0]) ?_ ?_; exact fun ρ w h => (by have := rshPut_any ⟨nI t, cs, ls⟩ _ _ w (sl_os h (i := 2) rfl) (sl_os h (i := 3) rfl) hs; rw [hp] at this; exact this)))
              all_goals (conv => whnf)
              all_goals first
                | exact fun ρ' w' h => outG_end h 2 3 _ _ rfl rfl (by decide) rfl rfl (fun _ _ _ _ => rfl) (fun _ _ _ _ => rfl) rfl hg
                | exact absurd rfl ‹¬ t = t›
          · rw [if_neg (fun h => hpt h.2)] at hg
            generalize putSB ⟨nI t, cs, ls⟩ = u at hp hpt
            rcases k with _ | _
            case' true => have hm0 := hm0 rfl
            all_goals
              repeat' ((conv => whnf); first | refine CutN.plain ?_ | with_reducible refine Br.ff ?_ | with_reducible refine Br.nnI ?_ | refine Need.go rfl ?_ | (with_reducible refine Br.dec (fun h => ?_) (fun h => ?_); first | (rotate_left; exfalso; omega; clear h) | (exfalso; omega; clear h) | skip) | (with_reducible refine Br.neS (fun h => ?_) (fun h => ?_); first | (rotate_left; exfalso; omega; clear h) | (exfalso; omega; clear h) | skip) | (refine call_mem (f := 50) (args := [shS ⟨nI t, cs, ls⟩ (.os 2 cs.length) (.os 3 ls.length)]) (V := .tuple #[S u, .int .i64 0]) ?_ ?_; exact fun ρ w h => (by have := rshPut_any ⟨nI t, cs, ls⟩ _ _ w (sl_os h (i := 2) rfl) (sl_os h (i := 3) rfl) hs; rw [hp] at this; exact this)))
              all_goals (conv => whnf)
              all_goals first
                | exact absurd ‹u = t› hpt
                | exact fun ρ' w' h => outG_nil (fr_none h.at.fr) hg
end Go.Proofs.Ytfkbodonidkpoaa
