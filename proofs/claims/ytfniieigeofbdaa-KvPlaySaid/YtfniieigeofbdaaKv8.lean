/-
  The store is the document's: Alike. No condition but the lengths.
-/
import Derived.Test.YtfniieigeofbdaaKv7
import Derived.Test.YtfniieigeofbdaaKvP
import Derived.Test.YtfniieigeofbdaaRef2
namespace Go.Proofs.Ytfniieigeofbdaa
open Go.RowKit
/-- Short keys, and not more than so many. -/
structure shortC (cs : List KC) (n : Nat) : Prop where
  key : ∀ c ∈ cs, c.1.length ≤ 16
  len : cs.length ≤ n
theorem shortC.zero : shortC [] 0 := ⟨fun c h => (by cases h), Nat.le_refl _⟩
theorem shortC.mono {cs : List KC} {n m : Nat} (h : shortC cs n) (hm : n ≤ m) : shortC cs m := ⟨h.key, Nat.le_trans h.len hm⟩
theorem shortC.short {cs : List KC} {n : Nat} (h : shortC cs n) (hn : n ≤ 1000) : (∀ c ∈ cs, c.1.length ≤ 1000) ∧ cs.length ≤ 1000 :=
  ⟨fun c hc => Nat.le_trans (h.key c hc) (by decide), Nat.le_trans h.len hn⟩
theorem shortC.eff {cs : List KC} {n : Nat} (h : shortC cs n) (i : Int) (o : OpM) : shortC (applyM cs i o).1 (n + 1) := by
  have h' := h.mono (Nat.le_succ n)
  unfold applyM effM
  dsimp only
  split
  · exact h'
  · rename_i h0
    have hc := chkO_0.1 (show chkO o = 0 by omega)
    split
    · exact h'
    · split
      · cases findC cs o.key
        · exact h'
        · exact ⟨fun c hc => h'.key c (mem_delC hc), Nat.le_trans (len_delC cs o.key) h'.len⟩
      · split
        · exact h'
        · refine ⟨fun c hm => ?_, Nat.le_trans (len_setC cs o.key o.value i) (Nat.succ_le_succ h.len)⟩
          rcases mem_setC hm with h1 | rfl
          · exact h'.key c h1
          · exact hc.2.2.2.2.2.2.2.1
def celK (l : List KC) (r _ : Nat) : Value := S (l.getD r celZ).1
theorem keysF_cel {cs l : List KC} (h : keysL cs = l.map (·.1)) : keysF cs = celK l := by
  funext r c
  unfold keysF celK
  rw [h]
  congr 1
  simp only [List.getD, List.getElem?_map]
  cases l[r]? <;> rfl
theorem kvKeys_c {w0 : World} {U : Nat → Prop} {H : List HE} {K : SV → List HE → Prop} (i : Nat) (cs l : List KC) {n : Nat} (hin : shortC cs n) (hn : n ≤ 1000) (hs : keysL cs = l.map (·.1)) (hi : getH H i = kvE cs)
    (hK : lenK H fun N => appK H (.own 9 1 l.length (celK l)) fun H' => K (.os N l.length) H') : CallN Try.prog w0 U 17 [.p i 0] H K := by
  have hl : cs.length = l.length := by have := congrArg List.length hs; rwa [keysL_len, List.length_map] at this
  rw [← keysF_cel hs, ← hl] at hK
  exact call_ownL 9 1 cs.length (keysF cs) (fun N => .os N cs.length) (fun v => v) (fun N ρ' v h => h) (fun ρ w h => by
    obtain ⟨sb, mb, h1, h0, h2, h3⟩ := h.at.ent i _ (getH_obj1 hi)
    have e : SV.denL ρ [.p i 0] = [.pointer (some ⟨sb, 0, none⟩)] := by simp [SV.denL, SV.den, atB, h1]
    rw [e]
    exact kvKeys_any cs (hin.short hn).1 (hin.short hn).2 w sb mb h0 h2 h3) hK
theorem kvSame_c {w0 : World} {U : Nat → Prop} {ρ : Loc} {H : List HE} {w : World} (h : HRel w0 U ρ H w) (i j : Nat) (cs : List KC) {n : Nat} (hin : shortC cs n) (hn : n ≤ 1000) (hi : getH H i = kvE cs) (hj : getH H j = kvE cs) :
    Calls Try.prog 16 (SV.denL ρ [.p i 0, .p j 0]).toArray w fun e w' => e = .returned (.bool true) ∧ w.grownBy w' none := by
  obtain ⟨sb, mb, h1, h0, h2, h3⟩ := h.at.ent i _ (getH_obj1 hi)
  obtain ⟨sb', mb', h1', h0', h2', h3'⟩ := h.at.ent j _ (getH_obj1 hj)
  have e : SV.denL ρ [.p i 0, .p j 0] = [.pointer (some ⟨sb, 0, none⟩), .pointer (some ⟨sb', 0, none⟩)] := by simp [SV.denL, SV.den, atB, h1, h1']
  rw [e]
  exact kvSame_any cs (hin.short hn).1 (hin.short hn).2 w sb mb sb' mb' h2 h3 h0 h2' h3' h0'
theorem kvSize_c {w0 : World} {U : Nat → Prop} {ρ : Loc} {H : List HE} {w : World} (h : HRel w0 U ρ H w) (i : Nat) (cs l : List KC) (hs : keysL cs = l.map (·.1)) (hi : getH H i = kvE cs) :
    Calls Try.prog 21 (SV.denL ρ [.p i 0]).toArray w fun e w' => e = .returned (.int .i64 l.length) ∧ w.grownBy w' none := by
  have hl : cs.length = l.length := by have := congrArg List.length hs; rwa [keysL_len, List.length_map] at this
  rw [← hl]
  exact kvSize_at h i cs hi
/-- A store and the document's cells. -/
structure KvD (cs l : List KC) (n : Nat) : Prop where
  short : shortC cs n
  uni : uniC cs
  same : sameC cs l
  rise : riseC l
theorem KvD.zero : KvD [] [] 0 := ⟨.zero, List.nodup_nil, fun _ => rfl, List.Pairwise.nil⟩
theorem KvD.mono {cs l : List KC} {n m : Nat} (h : KvD cs l n) (hm : n ≤ m) : KvD cs l m := ⟨h.short.mono hm, h.uni, h.same, h.rise⟩
theorem KvD.keys {cs l : List KC} {n : Nat} (h : KvD cs l n) : keysL cs = l.map (·.1) := keys_same h.uni h.same h.rise
theorem KvD.len {cs l : List KC} {n : Nat} (h : KvD cs l n) : l.length ≤ n := by
  have := congrArg List.length h.keys
  rw [keysL_len, List.length_map] at this
  exact this ▸ h.short.len
theorem KvD.eff {cs l : List KC} {n : Nat} (h : KvD cs l n) (i : Int) (o : OpM) : KvD (applyM cs i o).1 (applyD l i o).1 (n + 1) :=
  ⟨h.short.eff i o, uniC_apply _ _ h.uni, (sameC_apply i o h.same h.uni).1, riseC_apply _ _ h.rise⟩
set_option maxRecDepth 100000 in
set_option maxHeartbeats 4000000 in
theorem alike10 (cs l : List KC) {n : Nat} (hd : KvD cs l n) (hn : n ≤ 1000) :
    Spec Try.prog 20 [.p 0 0, .os 1 l.length] [kvE cs, celE l] fun s H1 => s = .v (.bool true) ∧ H1 = [kvE cs, celE l] := by
  have hln : l.length ≤ 1000 := Nat.le_trans hd.len hn
  have hlk := fun key => refLook10 l (by omega) key 7
  have hf : ∀ key, lookM (findC cs key) 7 = lookM (findC l key) 7 := fun key => by rw [hd.same key]
  have hs := hd.keys
  have hin := hd.short
  clear hd
  refine spec_x Try.func20 rfl 2 rfl rfl fun w0 U => ?_
  repeat' ((conv => whnf); first
      | refine QuiD.draw (draw_go tabOK (by kernel_rfl) ?_)
      | refine CutN.plain ?_
      | with_reducible refine Br.tt ?_
      | with_reducible refine Br.ff ?_
      | with_reducible refine Br.nt ?_
      | with_reducible refine Br.nf ?_
      | with_reducible refine Br.eeI ?_
      | with_reducible refine Br.nnI ?_
      | refine Br.yes (by decide) ?_
      | refine Br.no (by decide) ?_
      | refine Need.go rfl ?_
      | refine QuiD.quiet (by kernel_rfl) ?_
      | refine IdxN.lit ?_
      | refine draw_go tabOK (by kernel_rfl) ?_
      | refine Need.go ⟨rfl, rfl⟩ ?_
      | refine Need.go ⟨⟨rfl, rfl, rfl⟩, rfl⟩ ?_
      | (with_reducible refine Br.dec (fun h => ?_) (fun h => ?_); first | (rotate_left; exfalso; omega; clear h) | (exfalso; omega; clear h) | skip)
      | (with_reducible refine Br.eqI (fun h => ?_) (fun h => ?_); first | (rotate_left; exfalso; omega; clear h) | (exfalso; omega; clear h) | skip)
      | (with_reducible refine Br.neI (fun h => ?_) (fun h => ?_); first | (rotate_left; exfalso; omega; clear h) | (exfalso; omega; clear h) | skip)
      | (with_reducible refine Br.eqS (fun h => ?_) (fun h => ?_); first | (rotate_left; exfalso; omega; clear h) | (exfalso; omega; clear h) | skip)
      | (with_reducible refine Br.neS (fun h => ?_) (fun h => ?_); first | (rotate_left; exfalso; omega; clear h) | (exfalso; omega; clear h) | skip)
      | (with_reducible refine Br.nd (fun h => ?_) (fun h => ?_); first | (rotate_left; exfalso; omega; clear h) | (exfalso; omega; clear h) | skip)
      | refine Ar.i64 (by omega) (by omega) ?_
      | refine Br.no (by simp) ?_
      | refine kvKeys_c 0 cs l hin hn hs rfl ?_
      | (refine call_mem (f := 21) (args := [.p 0 0]) (V := .int .i64 l.length) ?_ ?_; exact fun ρ w h => kvSize_c h 0 cs l hs rfl)
      | (refine quiet_mem (f := 21) (args := [.p 0 0]) (V := .int .i64 l.length) ?_ ?_; exact fun ρ w h => kvSize_c h 0 cs l hs rfl)
      | (refine seg_mem (f := 21) (args := [.p 0 0]) (V := .int .i64 l.length) ?_ ?_; exact fun ρ w h => kvSize_c h 0 cs l hs rfl)
      | refine Need.go (by first | omega | decide | (simp <;> omega) | fail) ?_
      | refine Need.go (by first | (simp [Value.oneCell'] <;> omega) | fail) ?_
      | refine Need.go ⟨rfl, by omega, getD_one rfl rfl⟩ ?_
      | refine Need.go ⟨rfl, by omega, fun _ _ _ _ => rfl⟩ ?_
      | refine Br.both (fun h => ?_) (fun h => ?_))
  all_goals (conv => whnf)
  refine loop_up 21 (fun i : Nat => i ≤ l.length) (fun i => l.length - i) (fun i => [(6, .v (.int .i64 i))]) (fun _ => []) (fun _ => []) 0 (Nat.zero_le _) (by
    (conv => whnf)
    refine ⟨[some 0, some 1, some 2], by decide, ?_, ?_⟩
    all_goals repeat' (first | exact leT_junk rfl | refine And.intro ?_ ?_ | exact trivial | exact .inl ⟨rfl, rfl⟩ | rfl | exact .inr ⟨_, rfl, rfl, rfl⟩ | exact ⟨_, rfl, trivial⟩ | exact ⟨_, rfl, rfl⟩ | exact ⟨_, rfl, ⟨rfl, rfl, rfl⟩, fun _ _ _ _ => rfl⟩ | exact ⟨_, rfl, ⟨rfl, rfl, .inl rfl⟩, rfl⟩ | exact ⟨_, rfl, ⟨rfl, rfl, .inr rfl⟩, rfl⟩ | exact ⟨_, rfl, ⟨rfl, rfl, rfl, rfl, rfl⟩, rfl⟩ | exact ⟨_, rfl, ⟨rfl, rfl⟩, fun _ => Iff.rfl⟩ | refine ⟨_, rfl, rfl, ?_⟩ | refine ⟨_, rfl, ⟨rfl, rfl, rfl⟩, ?_⟩)) (fun i hi => ?_)
  by_cases hlt : i < l.length
  · obtain ⟨y, hy⟩ : ∃ y, (l.getD (Int.toNat (i : Int)) celZ).1 = y := ⟨_, rfl⟩
    have hyF : celK l (Int.toNat (i : Int)) 0 = S y := congrArg S hy
    repeat' ((conv => whnf); first
        | refine QuiD.draw (draw_go tabOK (by kernel_rfl) ?_)
        | refine Br.no (by first | (simp; done) | fail) ?_
        | rw [hyF]
        | rw [hy]
        | refine CutN.plain ?_
        | with_reducible refine Br.tt ?_
        | with_reducible refine Br.ff ?_
        | with_reducible refine Br.nt ?_
        | with_reducible refine Br.nf ?_
        | with_reducible refine Br.eeI ?_
        | with_reducible refine Br.nnI ?_
        | refine Br.yes (by decide) ?_
        | refine Br.no (by decide) ?_
        | refine Need.go rfl ?_
        | refine QuiD.quiet (by kernel_rfl) ?_
        | refine IdxN.lit ?_
        | refine draw_go tabOK (by kernel_rfl) ?_
        | refine Need.go ⟨rfl, rfl⟩ ?_
        | refine Need.go ⟨⟨rfl, rfl, rfl⟩, rfl⟩ ?_
        | (with_reducible refine Br.dec (fun h => ?_) (fun h => ?_); first | (rotate_left; exfalso; omega; clear h) | (exfalso; omega; clear h) | skip)
        | (with_reducible refine Br.eqI (fun h => ?_) (fun h => ?_); first | (rotate_left; exfalso; omega; clear h) | (exfalso; omega; clear h) | skip)
        | (with_reducible refine Br.neI (fun h => ?_) (fun h => ?_); first | (rotate_left; exfalso; omega; clear h) | (exfalso; omega; clear h) | skip)
        | (with_reducible refine Br.eqS (fun h => ?_) (fun h => ?_); first | (rotate_left; exfalso; omega; clear h) | (exfalso; omega; clear h) | skip)
        | (with_reducible refine Br.neS (fun h => ?_) (fun h => ?_); first | (rotate_left; exfalso; omega; clear h) | (exfalso; omega; clear h) | skip)
        | (with_reducible refine Br.nd (fun h => ?_) (fun h => ?_); first | (rotate_left; exfalso; omega; clear h) | (exfalso; omega; clear h) | skip)
        | refine Ar.i64 (by omega) (by omega) ?_
        | (refine call_sp (f := 18) (hlk y) [1] (by decide) rfl ⟨rfl, trivial⟩ rfl ?_; rintro s H1 ⟨rfl, rfl⟩)
        | (refine seg_sp (f := 18) (hlk y) (fun _ => rfl) [1] (by decide) rfl ⟨rfl, trivial⟩ rfl ?_)
        | (refine call_sv (f := 14) (args := [.p 0 0, .v (S y), .v (.int .i64 7)]) (s := resS' (lookM (findC l y) 7)) (fun _ => rfl) ?_ ?_; exact fun ρ w h => kvLook_is h 0 cs y 7 _ rfl (hf y))
        | (refine seg_sv (f := 14) (args := [.p 0 0, .v (S y), .v (.int .i64 7)]) (s := resS' (lookM (findC l y) 7)) (fun _ => rfl) ?_ ?_; exact fun ρ w h => kvLook_is h 0 cs y 7 _ rfl (hf y))
        | refine Need.go (by first | omega | decide | (simp <;> omega) | fail) ?_
        | refine Need.go (by first | (simp [Value.oneCell'] <;> omega) | fail) ?_
        | refine Need.go ⟨rfl, by omega, getD_one rfl rfl⟩ ?_
        | refine Need.go ⟨rfl, by omega, fun _ _ _ _ => rfl⟩ ?_
        | refine Br.both (fun h => ?_) (fun h => ?_))
    all_goals (conv => whnf)
    all_goals
      refine ⟨i + 1, by omega, by omega, ?_⟩
      (conv => whnf)
      refine ⟨[some 0, some 1, some 2], by decide, ?_, ?_⟩
      all_goals repeat' (first | exact leT_junk rfl | refine And.intro ?_ ?_ | exact trivial | exact .inl ⟨rfl, rfl⟩ | rfl | exact .inr ⟨_, rfl, rfl, rfl⟩ | exact ⟨_, rfl, trivial⟩ | exact ⟨_, rfl, rfl⟩ | exact ⟨_, rfl, ⟨rfl, rfl, rfl⟩, fun _ _ _ _ => rfl⟩ | exact ⟨_, rfl, ⟨rfl, rfl, .inl rfl⟩, rfl⟩ | exact ⟨_, rfl, ⟨rfl, rfl, .inr rfl⟩, rfl⟩ | exact ⟨_, rfl, ⟨rfl, rfl, rfl, rfl, rfl⟩, rfl⟩ | exact ⟨_, rfl, ⟨rfl, rfl⟩, fun _ => Iff.rfl⟩ | refine ⟨_, rfl, rfl, ?_⟩ | refine ⟨_, rfl, ⟨rfl, rfl, rfl⟩, ?_⟩)
  · repeat' ((conv => whnf); first
      | refine CutN.plain ?_
      | with_reducible refine Br.tt ?_
      | with_reducible refine Br.ff ?_
      | with_reducible refine Br.nt ?_
      | with_reducible refine Br.nf ?_
      | with_reducible refine Br.eeI ?_
      | with_reducible refine Br.nnI ?_
      | refine Br.yes (by decide) ?_
      | refine Br.no (by decide) ?_
      | refine Need.go rfl ?_
      | refine QuiD.quiet (by kernel_rfl) ?_
      | refine IdxN.lit ?_
      | refine draw_go tabOK (by kernel_rfl) ?_
      | refine Need.go ⟨rfl, rfl⟩ ?_
      | refine Need.go ⟨⟨rfl, rfl, rfl⟩, rfl⟩ ?_
      | (with_reducible refine Br.dec (fun h => ?_) (fun h => ?_); first | (rotate_left; exfalso; omega; clear h) | (exfalso; omega; clear h) | skip)
      | (with_reducible refine Br.eqI (fun h => ?_) (fun h => ?_); first | (rotate_left; exfalso; omega; clear h) | (exfalso; omega; clear h) | skip)
      | (with_reducible refine Br.neI (fun h => ?_) (fun h => ?_); first | (rotate_left; exfalso; omega; clear h) | (exfalso; omega; clear h) | skip)
      | (with_reducible refine Br.eqS (fun h => ?_) (fun h => ?_); first | (rotate_left; exfalso; omega; clear h) | (exfalso; omega; clear h) | skip)
      | (with_reducible refine Br.neS (fun h => ?_) (fun h => ?_); first | (rotate_left; exfalso; omega; clear h) | (exfalso; omega; clear h) | skip)
      | (with_reducible refine Br.nd (fun h => ?_) (fun h => ?_); first | (rotate_left; exfalso; omega; clear h) | (exfalso; omega; clear h) | skip)
      | refine Ar.i64 (by omega) (by omega) ?_
      | refine Need.go (by first | omega | decide | (simp <;> omega) | fail) ?_
      | refine Need.go (by first | (simp [Value.oneCell'] <;> omega) | fail) ?_
      | refine Need.go ⟨rfl, by omega, getD_one rfl rfl⟩ ?_
      | refine Need.go ⟨rfl, by omega, fun _ _ _ _ => rfl⟩ ?_
      | refine Br.both (fun h => ?_) (fun h => ?_))
    all_goals (conv => whnf)
    refine ⟨_, _, ⟨rfl, rfl⟩, by simp, trivial, ⟨[some 0, some 1], ⟨by decide, rfl⟩, ?_, ?_⟩⟩
    all_goals repeat' (first | exact leT_junk rfl | refine And.intro ?_ ?_ | exact trivial | exact .inl ⟨rfl, rfl⟩ | rfl | exact .inr ⟨_, rfl, rfl, rfl⟩ | exact ⟨_, rfl, trivial⟩ | exact ⟨_, rfl, rfl⟩ | exact ⟨_, rfl, ⟨rfl, rfl, rfl⟩, fun _ _ _ _ => rfl⟩ | exact ⟨_, rfl, ⟨rfl, rfl, .inl rfl⟩, rfl⟩ | exact ⟨_, rfl, ⟨rfl, rfl, .inr rfl⟩, rfl⟩ | exact ⟨_, rfl, ⟨rfl, rfl, rfl, rfl, rfl⟩, rfl⟩ | exact ⟨_, rfl, ⟨rfl, rfl⟩, fun _ => Iff.rfl⟩ | refine ⟨_, rfl, rfl, ?_⟩ | refine ⟨_, rfl, ⟨rfl, rfl, rfl⟩, ?_⟩)
end Go.Proofs.Ytfniieigeofbdaa
