/-
  The shot of bytes: Get. Condition: the bytes are not too long for a machine.
-/
import Derived.Test.YtfkbodonidkpoaaPW
import Derived.Test.YtfkbodonidkpoaaSh5
import Derived.Test.YtfkbodonidkpoaaShOf
import Derived.Test.YtfkbodonidkpoaaPU
namespace Go.Proofs.Ytfkbodonidkpoaa
open Go.RowKit
/-- A shot and an error's number that are handed back: the shot with slices of its own (of these types). -/
def OutG (ty ty2 : TypeId) (w : World) (g : ShM × Int) (e : Ending) (w' : World) : Prop :=
  ∃ v1 v2, e = .returned (.tuple #[shV g.1 v1 v2, .int .i64 g.2]) ∧ w'.ownsRow w.heap.size ty 3 v1 g.1.cells.length (cellsF 3 (celF g.1.cells) g.1.cells.length) ∧ w'.ownsRow w.heap.size ty2 6 v2 g.1.lasts.length (cellsF 6 (laF g.1.lasts) g.1.lasts.length) ∧ (∀ b, v1.ownBlock = some b → v2.ownBlock ≠ some b) ∧ w.grownBy w' none
theorem outG_end {ty ty2 : TypeId} {w0 w : World} {H : List HE} {ρ : Loc} (h : HRel w0 noU ρ H w) {t : ShM} {er : Int} (i j n m : Nat) {F G : Nat → Nat → Value} (hi : getH H i = .own ty 3 n F) (hj : getH H j = .own ty2 6 m G) (hij : i ≠ j) (hn : n = t.cells.length) (hm : m = t.lasts.length)
    (hF : ∀ r c, r < n → c < 3 → F r c = celF t.cells r c) (hG : ∀ r c, r < m → c < 6 → G r c = laF t.lasts r c) {v : Value} (hv : v = .tuple #[.agg #[.int .i64 t.index, (SV.os i n).den ρ, (SV.os j m).den ρ], .int .i64 er]) {g : ShM × Int} (hg : g = (t, er)) : OutG ty ty2 w0 g (.returned v) w := by
  subst hg
  refine ⟨_, _, by rw [hv], owns_congr (own_out h hi) hn hF, owns_congr (own_out h hj) hm hG, fun b hb hb2 => ?_, fr_none h.at.fr⟩
  obtain ⟨a, ha, hab⟩ := os_block hb
  obtain ⟨a2, ha2, hab2⟩ := os_block hb2
  exact h.at.dis i j _ _ hij (getH_own hi) trivial (getH_own hj) trivial b ⟨a, ha, hab⟩ ⟨a2, ha2, hab2⟩
theorem outG_nil {ty ty2 : TypeId} {w w' : World} {er : Int} (h : w.grownBy w' none) {g : ShM × Int} (hg : g = (shZ, er)) : OutG ty ty2 w g (.returned (.tuple #[.agg #[.int .i64 0, .slice none 0 0, .slice none 0 0], .int .i64 er])) w' := by
  subst hg
  exact ⟨.slice none 0 0, .slice none 0 0, rfl, ⟨by simp [shZ, cellsF], .inl ⟨rfl, rfl⟩⟩, ⟨by simp [shZ, cellsF], .inl ⟨rfl, rfl⟩⟩, fun b hb => by simp [Value.ownBlock] at hb, h⟩
theorem outG_n {ty ty2 : TypeId} {w0 : World} {U : Nat → Prop} {H : List HE} {K : SV → List HE → Prop} {f : FuncId} {args : List SV} (t : ShM) (er : Int)
    (hc : ∀ ρ w, HRel w0 U ρ H w → Calls Try.prog f (SV.denL ρ args).toArray w (OutG ty ty2 w (t, er)))
    (hK : lenK H fun N => appK H (.own ty 3 t.cells.length (celF t.cells)) fun H' => appK H' (.own ty2 6 t.lasts.length (laF t.lasts)) fun H'' => K (.tup [shS t (.os N t.cells.length) (.os (N + 1) t.lasts.length), .v (.int .i64 er)]) H'') :
    CallN Try.prog w0 U f args H K :=
  call_own2 _ _ _ _ _ _ _ _ (fun N => .tup [shS t (.os N t.cells.length) (.os (N + 1) t.lasts.length), .v (.int .i64 er)]) (fun v v2 => .tuple #[shV t v v2, .int .i64 er]) (fun N ρ' v v2 h1 h2 => by subst h1 h2; rfl) (fun ρ w hr => hc ρ w hr) hK
theorem bad1 (t : List UInt8) : (!(!(false || !oI t) && oI (rI t) && decide (0 ≤ nI (rI t)))) = !nB1 t := by
  unfold nB1
  rw [Bool.false_or, Bool.not_not]
theorem bad2 (k o d : Bool) : (!(!!k && o && d)) = !(k && o && d) := by rw [Bool.not_not]
theorem nI_hi (l : List UInt8) : -1 ≤ nI l ∧ nI l ≤ 1099511627776 := by
  rcases h : oI l with _ | _
  · have := (oI_no h).2; omega
  · exact (oI_yes h).2
set_option maxRecDepth 100000 in
set_option maxHeartbeats 16000000 in
theorem shGet_any (t : List UInt8) (ht : t.length ≤ 10000) (w : World) : Calls Try.prog 62 #[S t] w (OutG 104 97 w (getS' t)) := by
  rw [← getRP_eq]
  refine x_calls tabOK Try.func62 rfl [.v (S t)] [] _ rfl rfl (rel0 w) ?_
  have l1 := rI_len t
  have l2 := rI_len (rI t)
  have hb1 := bad1 t
  have hn1 := nI_hi (rI t)
  generalize hB1 : nB1 t = b1 at hb1
  repeat' ((conv => whnf); first | rw [hb1] | refine CutN.plain ?_ | refine Need.go rfl ?_ | (refine call_sp (f := 107) (rdNum t false (by omega)) [1] (by decide) rfl ⟨rfl, trivial⟩ rfl ?_; rintro s H1 ⟨rfl, rfl⟩) | (refine call_sp (f := 108) (rdCount (rI t) (false || !oI t) (by omega)) [1] (by decide) rfl ⟨rfl, trivial⟩ rfl ?_; rintro s H1 ⟨rfl, rfl⟩))
  all_goals (conv => whnf)
  refine loop_up 17 (fun x : List KC × List UInt8 × Bool => ManyI cellG cellR cellO (nI (rI t)).toNat 10000 (rI (rI t)) b1 x.1 x.2.1 x.2.2) (fun x => if x.2.2 then x.2.1.length + 1 else 0) (fun x => [(5, .v (.int .i64 (nI (rI t) - x.1.length))), (6, .junk)])
    (fun x => [(0, .ent (.blk 32 [.v (.int .i64 (nI t)), .os 2 x.1.length, .v (.slice none 0 0)])), (1, .ent (rdE x.2.1 (!x.2.2)))]) (fun x => [.own 104 3 x.1.length (celF x.1)]) ([], rI (rI t), b1) (many_zero _ _ _ _ _ (by omega)) (by
    (conv => whnf)
    refine ⟨[some 0, some 1, none], by decide, ?_, ?_⟩
    all_goals repeat' (first | exact leI' (by simp) | exact leT_junk rfl | refine And.intro ?_ ?_ | exact trivial | exact .inl ⟨rfl, rfl⟩ | rfl | exact .inr ⟨_, rfl, rfl, rfl⟩ | exact ⟨_, rfl, trivial⟩ | exact ⟨_, rfl, rfl⟩ | exact ⟨_, rfl, ⟨rfl, rfl, rfl⟩, fun _ _ _ _ => rfl⟩ | exact ⟨_, rfl, ⟨rfl, rfl, .inl rfl⟩, rfl⟩ | exact ⟨_, rfl, ⟨rfl, rfl, .inr rfl⟩, rfl⟩ | exact ⟨_, rfl, ⟨rfl, rfl, rfl, rfl, rfl⟩, rfl⟩ | exact ⟨_, rfl, ⟨rfl, rfl⟩, fun _ => Iff.rfl⟩ | refine ⟨_, rfl, rfl, ?_⟩)) (fun x hx => ?_)
  obtain ⟨cs, l, ok⟩ := x
  have hlen := hx.len
  simp only at hx hlen
  dsimp only
  by_cases hgo : ok = true ∧ cs.length < (nI (rI t)).toNat
  · obtain ⟨rfl, hlt⟩ := hgo
    simp only [if_true] at hlen
    have hnx := many_next cellR_no (fun l => cellR_lt) hx hlt
    have m1 := rT_len l
    have m2 := rT_len (rT l)
    repeat' ((conv => whnf); first | refine CutN.plain ?_ | refine Br.yes (by decide) ?_ | refine Need.go rfl ?_ | (with_reducible refine Br.dec (fun h => ?_) (fun h => ?_); first | (rotate_left; exfalso; omega; clear h) | (exfalso; omega; clear h) | skip) | refine Ar.i64 (by omega) (by omega) ?_ | (refine call_sp (f := 109) (rdText l false (by omega)) [1] (by decide) rfl ⟨rfl, trivial⟩ rfl ?_; rintro s H1 ⟨rfl, rfl⟩) | (refine call_sp (f := 109) (rdText (rT l) (false || !oT l) (by omega)) [1] (by decide) rfl ⟨rfl, trivial⟩ rfl ?_; rintro s H1 ⟨rfl, rfl⟩) | (refine call_sp (f := 107) (rdNum (rT (rT l)) ((false || !oT l) || !oT (rT l)) (by omega)) [1] (by decide) rfl ⟨rfl, trivial⟩ rfl ?_; rintro s H1 ⟨rfl, rfl⟩) | refine Need.go (by first | omega | decide | (simp <;> omega) | fail) ?_ | refine Need.go ⟨rfl, by omega, getD_one rfl rfl⟩ ?_)
    all_goals (conv => whnf)
    refine ⟨(cs ++ [cellG l], cellR l, cellO l), hnx, ?_, ?_⟩
    · dsimp only
      rcases ho : cellO l with _ | _
      · simp
      · have := cellR_lt ho
        simp; omega
    have e1 : (cs ++ [cellG l]).length = cs.length + 1 := by simp
    dsimp only
    rw [e1]
    (conv => whnf)
    refine ⟨[some 0, some 1, some 5], by decide, ?_, ?_⟩
    all_goals repeat' (first | exact leI' (by omega) | exact cell_bad l | exact celF_snoc _ (cellG l) | exact ⟨_, rfl, ⟨rfl, rfl, rfl⟩, celF_snoc _ (cellG l)⟩ | exact leT_junk rfl | refine And.intro ?_ ?_ | exact trivial | exact .inl ⟨rfl, rfl⟩ | rfl | exact .inr ⟨_, rfl, rfl, rfl⟩ | exact ⟨_, rfl, trivial⟩ | exact ⟨_, rfl, rfl⟩ | exact ⟨_, rfl, ⟨rfl, rfl, rfl⟩, fun _ _ _ _ => rfl⟩ | exact ⟨_, rfl, ⟨rfl, rfl, .inl rfl⟩, rfl⟩ | exact ⟨_, rfl, ⟨rfl, rfl, .inr rfl⟩, rfl⟩ | exact ⟨_, rfl, ⟨rfl, rfl, rfl, rfl, rfl⟩, rfl⟩ | exact ⟨_, rfl, ⟨rfl, rfl⟩, fun _ => Iff.rfl⟩ | refine ⟨_, rfl, rfl, ?_⟩)
  · have hend := many_end hx (by rcases ok with _ | _; exact .inl rfl; exact .inr (Nat.not_lt.1 fun h => hgo ⟨rfl, h⟩))
    have hcP : cP t = (cs, l, ok) := by unfold cP; rw [hB1]; exact hend
    have hL : l.length ≤ 10001 ∧ cs.length ≤ 10001 := by rcases ok <;> simp at hlen <;> omega
    have l3 := rI_len l
    have hn2 := nI_hi l
    have hB2 : nB2 t = (ok && oI l && decide (0 ≤ nI l)) := by unfold nB2; rw [hcP]
    have hb2 := bad2 ok (oI l) (decide (0 ≤ nI l))
    rw [← hB2] at hb2
    generalize hB2' : nB2 t = b2 at hb2
    have hdP : dP t = lastsG (nI l).toNat (rI l) b2 := by unfold dP; rw [hcP, hB2']
    have hn0 : ok = true → nI (rI t) - (cs.length : Int) ≤ 0 := fun h => by
      have : ¬ cs.length < (nI (rI t)).toNat := fun h' => hgo ⟨h, h'⟩
      omega
    obtain ⟨hL1, hL2⟩ := hL
    clear hlen hx hgo hend
    rcases ok with _ | _
    case' true => have hn0 := hn0 rfl
    all_goals
      repeat' ((conv => whnf); first | rw [hb2] | refine CutN.plain ?_ | refine Br.no (by decide) ?_ | refine Need.go rfl ?_ | (with_reducible refine Br.dec (fun h => ?_) (fun h => ?_); first | (rotate_left; exfalso; omega; clear h) | (exfalso; omega; clear h) | skip) | (refine call_sp (f := 108) (rdCount l (!false) (by omega)) [1] (by decide) rfl ⟨rfl, trivial⟩ rfl ?_; rintro s H1 ⟨rfl, rfl⟩) | (refine call_sp (f := 108) (rdCount l (!true) (by omega)) [1] (by decide) rfl ⟨rfl, trivial⟩ rfl ?_; rintro s H1 ⟨rfl, rfl⟩))
    all_goals (conv => whnf)
    all_goals
      refine loop_up 45 (fun x : List LaM × List UInt8 × Bool => ManyI lastG lastR lastO (nI l).toNat 20000 (rI l) b2 x.1 x.2.1 x.2.2) (fun x => if x.2.2 then x.2.1.length + 1 else 0) (fun x => [(7, .v (.int .i64 (nI l - x.1.length))), (8, .junk)])
        (fun x => [(0, .ent (.blk 32 [.v (.int .i64 (nI t)), .os 2 cs.length, .os 3 x.1.length])), (1, .ent (rdE x.2.1 (!x.2.2)))]) (fun x => [.own 97 6 x.1.length (laF x.1)]) ([], rI l, b2) (many_zero _ _ _ _ _ (by omega)) (by
        (conv => whnf)
        refine ⟨[some 0, some 1, some 2, none], by decide, ?_, ?_⟩
        all_goals repeat' (first | exact leI' (by simp) | exact leT_junk rfl | refine And.intro ?_ ?_ | exact trivial | exact .inl ⟨rfl, rfl⟩ | rfl | exact .inr ⟨_, rfl, rfl, rfl⟩ | exact ⟨_, rfl, trivial⟩ | exact ⟨_, rfl, rfl⟩ | exact ⟨_, rfl, ⟨rfl, rfl, rfl⟩, fun _ _ _ _ => rfl⟩ | exact ⟨_, rfl, ⟨rfl, rfl, .inl rfl⟩, rfl⟩ | exact ⟨_, rfl, ⟨rfl, rfl, .inr rfl⟩, rfl⟩ | exact ⟨_, rfl, ⟨rfl, rfl, rfl, rfl, rfl⟩, rfl⟩ | exact ⟨_, rfl, ⟨rfl, rfl⟩, fun _ => Iff.rfl⟩ | refine ⟨_, rfl, rfl, ?_⟩)) (fun x hx => ?_)
      obtain ⟨ls, m, k⟩ := x
      have hlen := hx.len
      simp only at hx hlen
      dsimp only
      by_cases hgo : k = true ∧ ls.length < (nI l).toNat
      · obtain ⟨rfl, hlt⟩ := hgo
        simp only [if_true] at hlen
        have hnx := many_next lastR_no (fun l => lastR_lt) hx hlt
        have m1 := rI_len m
        have m2 := rI_len (rI m)
        have m3 := rI_len (rI (rI m))
        have m4 := rT_len (rI (rI (rI m)))
        have m5 := rI_len (rT (rI (rI (rI m))))
        repeat' ((conv => whnf); first | refine CutN.plain ?_ | refine Br.yes (by decide) ?_ | refine Need.go rfl ?_ | (with_reducible refine Br.dec (fun h => ?_) (fun h => ?_); first | (rotate_left; exfalso; omega; clear h) | (exfalso; omega; clear h) | skip) | refine Ar.i64 (by omega) (by omega) ?_ | (refine call_sp (f := 107) (rdNum m false (by omega)) [1] (by decide) rfl ⟨rfl, trivial⟩ rfl ?_; rintro s H1 ⟨rfl, rfl⟩) | (refine call_sp (f := 107) (rdNum (rI m) (false || !oI m) (by omega)) [1] (by decide) rfl ⟨rfl, trivial⟩ rfl ?_; rintro s H1 ⟨rfl, rfl⟩) | (refine call_sp (f := 107) (rdNum (rI (rI m)) ((false || !oI m) || !oI (rI m)) (by omega)) [1] (by decide) rfl ⟨rfl, trivial⟩ rfl ?_; rintro s H1 ⟨rfl, rfl⟩) | (refine call_sp (f := 109) (rdText (rI (rI (rI m))) (((false || !oI m) || !oI (rI m)) || !oI (rI (rI m))) (by omega)) [1] (by decide) rfl ⟨rfl, trivial⟩ rfl ?_; rintro s H1 ⟨rfl, rfl⟩) | (refine call_sp (f := 107) (rdNum (rT (rI (rI (rI m)))) ((((false || !oI m) || !oI (rI m)) || !oI (rI (rI m))) || !oT (rI (rI (rI m)))) (by omega)) [1] (by decide) rfl ⟨rfl, trivial⟩ rfl ?_; rintro s H1 ⟨rfl, rfl⟩) | (refine call_sp (f := 107) (rdNum (rI (rT (rI (rI (rI m))))) (((((false || !oI m) || !oI (rI m)) || !oI (rI (rI m))) || !oT (rI (rI (rI m)))) || !oI (rT (rI (rI (rI m))))) (by omega)) [1] (by decide) rfl ⟨rfl, trivial⟩ rfl ?_; rintro s H1 ⟨rfl, rfl⟩) | refine Need.go (by first | omega | decide | (simp <;> omega) | fail) ?_ | refine Need.go ⟨rfl, by omega, getD_one rfl rfl⟩ ?_)
        all_goals (conv => whnf)
        refine ⟨(ls ++ [lastG m], lastR m, lastO m), hnx, ?_, ?_⟩
        · dsimp only
          rcases ho : lastO m with _ | _
          · simp
          · have := lastR_lt ho
            simp; omega
        have e1 : (ls ++ [lastG m]).length = ls.length + 1 := by simp
        dsimp only
        rw [e1]
        (conv => whnf)
        refine ⟨[some 0, some 1, some 2, some 6], by decide, ?_, ?_⟩
        all_goals repeat' (first | exact leI' (by omega) | exact last_bad m | exact laF_snoc _ (lastG m) | exact ⟨_, rfl, ⟨rfl, rfl, rfl⟩, laF_snoc _ (lastG m)⟩ | exact leT_junk rfl | refine And.intro ?_ ?_ | exact trivial | exact .inl ⟨rfl, rfl⟩ | rfl | exact .inr ⟨_, rfl, rfl, rfl⟩ | exact ⟨_, rfl, trivial⟩ | exact ⟨_, rfl, rfl⟩ | exact ⟨_, rfl, ⟨rfl, rfl, rfl⟩, fun _ _ _ _ => rfl⟩ | exact ⟨_, rfl, ⟨rfl, rfl, .inl rfl⟩, rfl⟩ | exact ⟨_, rfl, ⟨rfl, rfl, .inr rfl⟩, rfl⟩ | exact ⟨_, rfl, ⟨rfl, rfl, rfl, rfl, rfl⟩, rfl⟩ | exact ⟨_, rfl, ⟨rfl, rfl⟩, fun _ => Iff.rfl⟩ | refine ⟨_, rfl, rfl, ?_⟩)
      · have hend := many_end hx (by rcases k with _ | _; exact .inl rfl; exact .inr (Nat.not_lt.1 fun h => hgo ⟨rfl, h⟩))
        replace hdP := hdP.trans hend
        have hM : m.length ≤ 20001 ∧ ls.length ≤ 20001 := by rcases k <;> simp at hlen <;> omega
        have hm0 : k = true → nI l - (ls.length : Int) ≤ 0 := fun h => by
          have : ¬ ls.length < (nI l).toNat := fun h' => hgo ⟨h, h'⟩
          omega
        have hg : getRP t = if k = true ∧ m = [] ∧ chkS ⟨nI t, cs, ls⟩ = true then (⟨nI t, cs, ls⟩, 0) else (shZ, 10) := by
          unfold getRP
          rw [hcP, hdP]
        clear hlen hx hgo hend hdP hcP hn0 hb1 hb2 hB1 hB2 hB2'
        have hs : SmallS ⟨nI t, cs, ls⟩ := ⟨by show cs.length ≤ _; omega, by show ls.length ≤ _; omega⟩
        rcases k with _ | _
        · rw [if_neg (fun h => by cases h.1)] at hg
          repeat' ((conv => whnf); first | refine CutN.plain ?_ | with_reducible refine Br.nf ?_ | refine Br.no (by decide) ?_ | refine Need.go rfl ?_ | (with_reducible refine Br.dec (fun h => ?_) (fun h => ?_); first | (rotate_left; exfalso; omega; clear h) | (exfalso; omega; clear h) | skip))
          all_goals (conv => whnf)
          all_goals exact fun ρ' w' h => outG_nil (fr_none h.at.fr) hg
        have hm0 := hm0 rfl
        by_cases hmn : m = []
        · rcases hck : chkS ⟨nI t, cs, ls⟩ with _ | _
          · rw [if_neg (fun h => by rw [hck] at h; cases h.2.2)] at hg
            repeat' ((conv => whnf); first | refine CutN.plain ?_ | with_reducible refine Br.nt ?_ | refine Br.yes (by decide) ?_ | refine Need.go rfl ?_ | (with_reducible refine Br.dec (fun h => ?_) (fun h => ?_); first | (rotate_left; exfalso; omega; clear h) | (exfalso; omega; clear h) | skip) | (with_reducible refine Br.neS (fun h => ?_) (fun h => ?_); first | (rotate_left; exfalso; omega; clear h) | (exfalso; omega; clear h) | skip) | (refine call_mem (f := 51) (args := [shS ⟨nI t, cs, ls⟩ (.os 2 cs.length) (.os 3 ls.length)]) (V := .int .i64 2) ?_ ?_; exact fun ρ w h => (by have := shCheck_any ⟨nI t, cs, ls⟩ _ _ w (sl_os h (i := 2) rfl) (sl_os h (i := 3) rfl) hs; rw [hck] at this; exact this)))
            all_goals (conv => whnf)
            all_goals exact fun ρ' w' h => outG_nil (fr_none h.at.fr) hg
          · rw [if_pos ⟨rfl, hmn, hck⟩] at hg
            subst hmn
            repeat' ((conv => whnf); first | refine CutN.plain ?_ | with_reducible refine Br.nt ?_ | with_reducible refine Br.nnI ?_ | refine Br.no (by decide) ?_ | refine Need.go rfl ?_ | (with_reducible refine Br.dec (fun h => ?_) (fun h => ?_); first | (rotate_left; exfalso; omega; clear h) | (exfalso; omega; clear h) | skip) | (refine call_mem (f := 51) (args := [shS ⟨nI t, cs, ls⟩ (.os 2 cs.length) (.os 3 ls.length)]) (V := .int .i64 0) ?_ ?_; exact fun ρ w h => (by have := shCheck_any ⟨nI t, cs, ls⟩ _ _ w (sl_os h (i := 2) rfl) (sl_os h (i := 3) rfl) hs; rw [hck] at this; exact this)))
            all_goals (conv => whnf)
            all_goals exact fun ρ' w' h => outG_end h 2 3 _ _ rfl rfl (by decide) rfl rfl (fun _ _ _ _ => rfl) (fun _ _ _ _ => rfl) rfl hg
        · rw [if_neg (fun h => hmn h.2.1)] at hg
          repeat' ((conv => whnf); first | refine CutN.plain ?_ | with_reducible refine Br.nt ?_ | refine Need.go rfl ?_ | (with_reducible refine Br.dec (fun h => ?_) (fun h => ?_); first | (rotate_left; exfalso; omega; clear h) | (exfalso; omega; clear h) | skip) | (with_reducible refine Br.neI (fun h => ?_) (fun h => ?_); first | (rotate_left; exfalso; omega; clear h) | (exfalso; omega; clear h) | skip) | (with_reducible refine Br.neS (fun h => ?_) (fun h => ?_); first | (rotate_left; exfalso; omega; clear h) | (exfalso; omega; clear h) | skip) | (refine call_mem (f := 51) (args := [shS ⟨nI t, cs, ls⟩ (.os 2 cs.length) (.os 3 ls.length)]) (V := .int .i64 (erI (chkS ⟨nI t, cs, ls⟩))) ?_ ?_; exact fun ρ w h => shCheck_any ⟨nI t, cs, ls⟩ _ _ w (sl_os h (i := 2) rfl) (sl_os h (i := 3) rfl) hs))
          all_goals (conv => whnf)
          all_goals first
            | exact absurd ‹m = []› hmn
            | exact fun ρ' w' h => outG_nil (fr_none h.at.fr) hg
end Go.Proofs.Ytfkbodonidkpoaa
