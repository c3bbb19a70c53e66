/-
  The log: Copy, Entries, Begins. No condition.
-/
import Derived.Test.YtlphkjbadjdleaaLog3
namespace Go.Proofs.Ytlphkjbadjdleaa
set_option maxRecDepth 100000 in
set_option maxHeartbeats 1000000 in
theorem cloneE (v : Value) (n : Nat) (f : Nat → Nat → Value) (w : World) (h : SliceV w v 7 n f) (hf : ∀ r c, r < n → c < 7 → (f r c).oneCell' = true) (hn : n ≤ 1000000) :
    Calls Try.prog 52 #[v] w fun e w' => ∃ v', e = .returned v' ∧ w'.ownsRow w.heap.size 30 7 v' n (cellsF 7 f n) ∧ w.grownBy w' none := by
  obtain ⟨a, c, rfl, hc, hm, hr⟩ := h
  rcases Nat.eq_zero_or_pos n with rfl | h0
  · rcases a with _ | a
    · refine x_calls tabOK Try.func52 rfl [.v (.slice none 0 c)] [] _ rfl rfl (rel0 w) ?_
      repeat' ((conv => whnf); first
          | with_reducible refine Br.tt ?_
          | with_reducible refine Br.ff ?_
          | with_reducible refine Br.nt ?_
          | with_reducible refine Br.nf ?_
          | with_reducible refine Br.eeI ?_
          | with_reducible refine Br.nnI ?_
          | refine Br.yes (by decide) ?_
          | refine Br.no (by decide) ?_
          | refine Need.go rfl ?_
          | refine QuiD.quiet (by kernel_rfl) ?_
          | refine draw_go tabOK (by kernel_rfl) ?_
          | refine Need.go ⟨rfl, rfl⟩ ?_
          | refine Need.go ⟨⟨rfl, rfl, rfl⟩, rfl⟩ ?_
          | with_reducible refine Br.dec (fun h => ?_) (fun h => ?_)
          | with_reducible refine Br.eqI (fun h => ?_) (fun h => ?_)
          | with_reducible refine Br.neI (fun h => ?_) (fun h => ?_)
          | with_reducible refine Br.eqS (fun h => ?_) (fun h => ?_)
          | with_reducible refine Br.neS (fun h => ?_) (fun h => ?_)
          | with_reducible refine Br.nd (fun h => ?_) (fun h => ?_)
          | refine Ar.i64 (by omega) (by omega) ?_
          | refine Need.go rfl ?_
          | refine Need.go (by first | omega | decide | (simp <;> omega) | fail) ?_
          | refine Need.go (by first | (simp [Value.oneCell'] <;> omega) | fail) ?_
          | refine Need.go ⟨rfl, by omega, getD_one rfl rfl⟩ ?_
          | refine Need.go ⟨rfl, by omega, fun _ _ _ _ => rfl⟩ ?_
          | refine Br.both (fun h => ?_) (fun h => ?_))
      (conv => whnf)
      refine fun ρ' w' hr => ⟨.slice none 0 0, rfl, ⟨by simp [cellsF], .inl ⟨rfl, rfl⟩⟩, fr_none hr.at.fr⟩
    · refine x_calls tabOK Try.func52 rfl [.v (.slice (some a) 0 c)] [] _ rfl rfl (rel0 w) ?_
      repeat' ((conv => whnf); first
          | with_reducible refine Br.tt ?_
          | with_reducible refine Br.ff ?_
          | with_reducible refine Br.nt ?_
          | with_reducible refine Br.nf ?_
          | with_reducible refine Br.eeI ?_
          | with_reducible refine Br.nnI ?_
          | refine Br.yes (by decide) ?_
          | refine Br.no (by decide) ?_
          | refine Need.go rfl ?_
          | refine QuiD.quiet (by kernel_rfl) ?_
          | refine draw_go tabOK (by kernel_rfl) ?_
          | refine Need.go ⟨rfl, rfl⟩ ?_
          | refine Need.go ⟨⟨rfl, rfl, rfl⟩, rfl⟩ ?_
          | with_reducible refine Br.dec (fun h => ?_) (fun h => ?_)
          | with_reducible refine Br.eqI (fun h => ?_) (fun h => ?_)
          | with_reducible refine Br.neI (fun h => ?_) (fun h => ?_)
          | with_reducible refine Br.eqS (fun h => ?_) (fun h => ?_)
          | with_reducible refine Br.neS (fun h => ?_) (fun h => ?_)
          | with_reducible refine Br.nd (fun h => ?_) (fun h => ?_)
          | refine Ar.i64 (by omega) (by omega) ?_
          | refine Need.go rfl ?_
          | refine Need.go (by first | omega | decide | (simp <;> omega) | fail) ?_
          | refine Need.go (by first | (simp [Value.oneCell'] <;> omega) | fail) ?_
          | refine Need.go ⟨rfl, by omega, getD_one rfl rfl⟩ ?_
          | refine Need.go ⟨rfl, by omega, fun _ _ _ _ => rfl⟩ ?_
          | refine Br.both (fun h => ?_) (fun h => ?_))
      (conv => whnf)
      refine fun ρ' w' hr => ⟨(SV.os 1 _).den ρ', rfl, owns_congr (own_out (i := 1) hr rfl) (Nat.zero_add _) (fun r c hr hc => absurd hr (Nat.not_lt_zero _)), fr_none hr.at.fr⟩
  · refine x_calls tabOK Try.func52 rfl [.rs 0 n c] _ _ rfl rfl (relR1 hr) ?_
    repeat' ((conv => whnf); first
        | with_reducible refine Br.tt ?_
        | with_reducible refine Br.ff ?_
        | with_reducible refine Br.nt ?_
        | with_reducible refine Br.nf ?_
        | with_reducible refine Br.eeI ?_
        | with_reducible refine Br.nnI ?_
        | refine Br.yes (by decide) ?_
        | refine Br.no (by decide) ?_
        | refine Need.go rfl ?_
        | refine QuiD.quiet (by kernel_rfl) ?_
        | refine draw_go tabOK (by kernel_rfl) ?_
        | refine Need.go ⟨rfl, rfl⟩ ?_
        | refine Need.go ⟨⟨rfl, rfl, rfl⟩, rfl⟩ ?_
        | with_reducible refine Br.dec (fun h => ?_) (fun h => ?_)
        | with_reducible refine Br.eqI (fun h => ?_) (fun h => ?_)
        | with_reducible refine Br.neI (fun h => ?_) (fun h => ?_)
        | with_reducible refine Br.eqS (fun h => ?_) (fun h => ?_)
        | with_reducible refine Br.neS (fun h => ?_) (fun h => ?_)
        | with_reducible refine Br.nd (fun h => ?_) (fun h => ?_)
        | refine Ar.i64 (by omega) (by omega) ?_
        | refine Need.go ⟨rfl, Nat.le_refl _, hf⟩ ?_
        | refine Need.go ⟨by omega, (Nat.mul_le_mul_right _ hn).trans (by decide)⟩ ?_
        | refine Need.go ⟨rfl, rfl, rfl, by omega, (Nat.mul_le_mul_right _ (show 0 + n ≤ 1000000 by omega)).trans (by decide)⟩ ?_
        | refine Need.go (by first | omega | decide | (simp <;> omega) | fail) ?_
        | refine Need.go (by first | (simp [Value.oneCell'] <;> omega) | fail) ?_
        | refine Need.go ⟨rfl, by omega, getD_one rfl rfl⟩ ?_
        | refine Need.go ⟨rfl, by omega, fun _ _ _ _ => rfl⟩ ?_
        | refine Br.both (fun h => ?_) (fun h => ?_))
    (conv => whnf)
    refine fun ρ' w' hr => ⟨(SV.os 2 _).den ρ', rfl, owns_congr (own_out (i := 2) hr rfl) (Nat.zero_add _) (fun r c hr hc => ?_), fr_none hr.at.fr⟩
    unfold rowsApp
    rw [if_neg (Nat.not_lt_zero _), Nat.sub_zero]
section
variable {w0 : World} {U : Nat → Prop}
theorem cloneE_n {H : List HE} {K : SV → List HE → Prop} (y : SV) (n : Nat) (f : Nat → Nat → Value) (hy : ∀ ρ w, HRel w0 U ρ H w → SliceV w (y.den ρ) 7 n f) (hf : ∀ r c, r < n → c < 7 → (f r c).oneCell' = true) (hn : n ≤ 1000000)
    (hK : lenK H fun N => appK H (.own 30 7 n f) fun H' => K (.os N n) H') : CallN Try.prog w0 U 52 [y] H K :=
  call_ownL 30 7 n f (fun N => .os N n) (fun v => v) (fun N ρ' v h => h) (fun ρ w h => cloneE _ n f w (hy ρ w h) hf hn) hK
theorem cloneE_s {nb N : Nat} {H : List HE} {K : SV → Option HE → Prop} (y : SV) (n : Nat) (f : Nat → Nat → Value) (hy : ∀ ρ w, HRel w0 U ρ H w → SliceV w (y.den ρ) 7 n f) (hf : ∀ r c, r < n → c < 7 → (f r c).oneCell' = true) (hn : n ≤ 1000000)
    (hK : K (.os N n) (some (.own 30 7 n f))) : CallS Try.prog w0 U nb 52 [y] H N K :=
  seg_own 30 7 n f (.os N n) (fun v => v) (fun ρ' v h => h) (fun ρ w h => cloneE _ n f w (hy ρ w h) hf hn) hK
end
set_option maxRecDepth 100000 in
set_option maxHeartbeats 1000000 in
theorem cloneR (v : Value) (n : Nat) (f : Nat → Nat → Value) (w : World) (h : SliceV w v 4 n f) (hf : ∀ r c, r < n → c < 4 → (f r c).oneCell' = true) (hn : n ≤ 1000000) :
    Calls Try.prog 53 #[v] w fun e w' => ∃ v', e = .returned v' ∧ w'.ownsRow w.heap.size 36 4 v' n (cellsF 4 f n) ∧ w.grownBy w' none := by
  obtain ⟨a, c, rfl, hc, hm, hr⟩ := h
  rcases Nat.eq_zero_or_pos n with rfl | h0
  · rcases a with _ | a
    · refine x_calls tabOK Try.func53 rfl [.v (.slice none 0 c)] [] _ rfl rfl (rel0 w) ?_
      repeat' ((conv => whnf); first
          | with_reducible refine Br.tt ?_
          | with_reducible refine Br.ff ?_
          | with_reducible refine Br.nt ?_
          | with_reducible refine Br.nf ?_
          | with_reducible refine Br.eeI ?_
          | with_reducible refine Br.nnI ?_
          | refine Br.yes (by decide) ?_
          | refine Br.no (by decide) ?_
          | refine Need.go rfl ?_
          | refine QuiD.quiet (by kernel_rfl) ?_
          | refine draw_go tabOK (by kernel_rfl) ?_
          | refine Need.go ⟨rfl, rfl⟩ ?_
          | refine Need.go ⟨⟨rfl, rfl, rfl⟩, rfl⟩ ?_
          | with_reducible refine Br.dec (fun h => ?_) (fun h => ?_)
          | with_reducible refine Br.eqI (fun h => ?_) (fun h => ?_)
          | with_reducible refine Br.neI (fun h => ?_) (fun h => ?_)
          | with_reducible refine Br.eqS (fun h => ?_) (fun h => ?_)
          | with_reducible refine Br.neS (fun h => ?_) (fun h => ?_)
          | with_reducible refine Br.nd (fun h => ?_) (fun h => ?_)
          | refine Ar.i64 (by omega) (by omega) ?_
          | refine Need.go rfl ?_
          | refine Need.go (by first | omega | decide | (simp <;> omega) | fail) ?_
          | refine Need.go (by first | (simp [Value.oneCell'] <;> omega) | fail) ?_
          | refine Need.go ⟨rfl, by omega, getD_one rfl rfl⟩ ?_
          | refine Need.go ⟨rfl, by omega, fun _ _ _ _ => rfl⟩ ?_
          | refine Br.both (fun h => ?_) (fun h => ?_))
      (conv => whnf)
      refine fun ρ' w' hr => ⟨.slice none 0 0, rfl, ⟨by simp [cellsF], .inl ⟨rfl, rfl⟩⟩, fr_none hr.at.fr⟩
    · refine x_calls tabOK Try.func53 rfl [.v (.slice (some a) 0 c)] [] _ rfl rfl (rel0 w) ?_
      repeat' ((conv => whnf); first
          | with_reducible refine Br.tt ?_
          | with_reducible refine Br.ff ?_
          | with_reducible refine Br.nt ?_
          | with_reducible refine Br.nf ?_
          | with_reducible refine Br.eeI ?_
          | with_reducible refine Br.nnI ?_
          | refine Br.yes (by decide) ?_
          | refine Br.no (by decide) ?_
          | refine Need.go rfl ?_
          | refine QuiD.quiet (by kernel_rfl) ?_
          | refine draw_go tabOK (by kernel_rfl) ?_
          | refine Need.go ⟨rfl, rfl⟩ ?_
          | refine Need.go ⟨⟨rfl, rfl, rfl⟩, rfl⟩ ?_
          | with_reducible refine Br.dec (fun h => ?_) (fun h => ?_)
          | with_reducible refine Br.eqI (fun h => ?_) (fun h => ?_)
          | with_reducible refine Br.neI (fun h => ?_) (fun h => ?_)
          | with_reducible refine Br.eqS (fun h => ?_) (fun h => ?_)
          | with_reducible refine Br.neS (fun h => ?_) (fun h => ?_)
          | with_reducible refine Br.nd (fun h => ?_) (fun h => ?_)
          | refine Ar.i64 (by omega) (by omega) ?_
          | refine Need.go rfl ?_
          | refine Need.go (by first | omega | decide | (simp <;> omega) | fail) ?_
          | refine Need.go (by first | (simp [Value.oneCell'] <;> omega) | fail) ?_
          | refine Need.go ⟨rfl, by omega, getD_one rfl rfl⟩ ?_
          | refine Need.go ⟨rfl, by omega, fun _ _ _ _ => rfl⟩ ?_
          | refine Br.both (fun h => ?_) (fun h => ?_))
      (conv => whnf)
      refine fun ρ' w' hr => ⟨(SV.os 1 _).den ρ', rfl, owns_congr (own_out (i := 1) hr rfl) (Nat.zero_add _) (fun r c hr hc => absurd hr (Nat.not_lt_zero _)), fr_none hr.at.fr⟩
  · refine x_calls tabOK Try.func53 rfl [.rs 0 n c] _ _ rfl rfl (relR1 hr) ?_
    repeat' ((conv => whnf); first
        | with_reducible refine Br.tt ?_
        | with_reducible refine Br.ff ?_
        | with_reducible refine Br.nt ?_
        | with_reducible refine Br.nf ?_
        | with_reducible refine Br.eeI ?_
        | with_reducible refine Br.nnI ?_
        | refine Br.yes (by decide) ?_
        | refine Br.no (by decide) ?_
        | refine Need.go rfl ?_
        | refine QuiD.quiet (by kernel_rfl) ?_
        | refine draw_go tabOK (by kernel_rfl) ?_
        | refine Need.go ⟨rfl, rfl⟩ ?_
        | refine Need.go ⟨⟨rfl, rfl, rfl⟩, rfl⟩ ?_
        | with_reducible refine Br.dec (fun h => ?_) (fun h => ?_)
        | with_reducible refine Br.eqI (fun h => ?_) (fun h => ?_)
        | with_reducible refine Br.neI (fun h => ?_) (fun h => ?_)
        | with_reducible refine Br.eqS (fun h => ?_) (fun h => ?_)
        | with_reducible refine Br.neS (fun h => ?_) (fun h => ?_)
        | with_reducible refine Br.nd (fun h => ?_) (fun h => ?_)
        | refine Ar.i64 (by omega) (by omega) ?_
        | refine Need.go ⟨rfl, Nat.le_refl _, hf⟩ ?_
        | refine Need.go ⟨by omega, (Nat.mul_le_mul_right _ hn).trans (by decide)⟩ ?_
        | refine Need.go ⟨rfl, rfl, rfl, by omega, (Nat.mul_le_mul_right _ (show 0 + n ≤ 1000000 by omega)).trans (by decide)⟩ ?_
        | refine Need.go (by first | omega | decide | (simp <;> omega) | fail) ?_
        | refine Need.go (by first | (simp [Value.oneCell'] <;> omega) | fail) ?_
        | refine Need.go ⟨rfl, by omega, getD_one rfl rfl⟩ ?_
        | refine Need.go ⟨rfl, by omega, fun _ _ _ _ => rfl⟩ ?_
        | refine Br.both (fun h => ?_) (fun h => ?_))
    (conv => whnf)
    refine fun ρ' w' hr => ⟨(SV.os 2 _).den ρ', rfl, owns_congr (own_out (i := 2) hr rfl) (Nat.zero_add _) (fun r c hr hc => ?_), fr_none hr.at.fr⟩
    unfold rowsApp
    rw [if_neg (Nat.not_lt_zero _), Nat.sub_zero]
section
variable {w0 : World} {U : Nat → Prop}
theorem cloneR_n {H : List HE} {K : SV → List HE → Prop} (y : SV) (n : Nat) (f : Nat → Nat → Value) (hy : ∀ ρ w, HRel w0 U ρ H w → SliceV w (y.den ρ) 4 n f) (hf : ∀ r c, r < n → c < 4 → (f r c).oneCell' = true) (hn : n ≤ 1000000)
    (hK : lenK H fun N => appK H (.own 36 4 n f) fun H' => K (.os N n) H') : CallN Try.prog w0 U 53 [y] H K :=
  call_ownL 36 4 n f (fun N => .os N n) (fun v => v) (fun N ρ' v h => h) (fun ρ w h => cloneR _ n f w (hy ρ w h) hf hn) hK
theorem cloneR_s {nb N : Nat} {H : List HE} {K : SV → Option HE → Prop} (y : SV) (n : Nat) (f : Nat → Nat → Value) (hy : ∀ ρ w, HRel w0 U ρ H w → SliceV w (y.den ρ) 4 n f) (hf : ∀ r c, r < n → c < 4 → (f r c).oneCell' = true) (hn : n ≤ 1000000)
    (hK : K (.os N n) (some (.own 36 4 n f))) : CallS Try.prog w0 U nb 53 [y] H N K :=
  seg_own 36 4 n f (.os N n) (fun v => v) (fun ρ' v h => h) (fun ρ w h => cloneR _ n f w (hy ρ w h) hf hn) hK
end
theorem entF_one (l : List EntM) {n : Nat} : ∀ r c, r < n → c < 7 → (entF l r c).oneCell' = true := rowsF_one entC_one l
theorem resF_one (l : List ResM) {n : Nat} : ∀ r c, r < n → c < 4 → (resF l r c).oneCell' = true := rowsF_one resC_one l
set_option maxRecDepth 100000 in
set_option maxHeartbeats 1000000 in
theorem logEntries (l : LogM) (hl : l.ok) : Spec Try.prog 22 [.p 0 0] (logH l) fun s H1 => s = .os 4 l.ents.length ∧ H1 = logH l ++ [.own 30 7 l.ents.length (entF l.ents)] := by
  have hl2 := hl.2
  refine spec_x Try.func22 rfl 4 rfl rfl fun w0 U => ?_
  repeat' ((conv => whnf); first
      | with_reducible refine Br.tt ?_
      | with_reducible refine Br.ff ?_
      | with_reducible refine Br.nt ?_
      | with_reducible refine Br.nf ?_
      | with_reducible refine Br.eeI ?_
      | with_reducible refine Br.nnI ?_
      | refine Br.yes (by decide) ?_
      | refine Br.no (by decide) ?_
      | refine Need.go rfl ?_
      | refine QuiD.quiet (by kernel_rfl) ?_
      | refine draw_go tabOK (by kernel_rfl) ?_
      | refine Need.go ⟨rfl, rfl⟩ ?_
      | refine Need.go ⟨⟨rfl, rfl, rfl⟩, rfl⟩ ?_
      | with_reducible refine Br.dec (fun h => ?_) (fun h => ?_)
      | with_reducible refine Br.eqI (fun h => ?_) (fun h => ?_)
      | with_reducible refine Br.neI (fun h => ?_) (fun h => ?_)
      | with_reducible refine Br.eqS (fun h => ?_) (fun h => ?_)
      | with_reducible refine Br.neS (fun h => ?_) (fun h => ?_)
      | with_reducible refine Br.nd (fun h => ?_) (fun h => ?_)
      | refine Ar.i64 (by omega) (by omega) ?_
      | refine call_inlineL (f := 50) Try.func50 rfl ?_
      | refine cloneE_n (.os 2 l.ents.length) l.ents.length (entF l.ents) (fun ρ w h => sl_os h rfl) (entF_one l.ents) (by omega) ?_
      | refine Need.go (by first | omega | decide | (simp <;> omega) | fail) ?_
      | refine Need.go (by first | (simp [Value.oneCell'] <;> omega) | fail) ?_
      | refine Need.go ⟨rfl, by omega, getD_one rfl rfl⟩ ?_
      | refine Need.go ⟨rfl, by omega, fun _ _ _ _ => rfl⟩ ?_
      | refine Br.both (fun h => ?_) (fun h => ?_))
  all_goals (conv => whnf)
  refine ⟨_, _, ⟨rfl, rfl⟩, by simp, trivial, ⟨[some 0, some 1, some 2, some 3, some 4], ⟨by decide, rfl⟩, ?_, ?_⟩⟩
  all_goals repeat' (first | exact trivial | exact .inl ⟨rfl, rfl⟩ | rfl | exact .inr ⟨_, rfl, rfl, rfl⟩ | exact ⟨_, rfl, trivial⟩ | exact ⟨_, rfl, rfl⟩ | exact ⟨_, rfl, ⟨rfl, rfl, rfl⟩, fun _ _ _ _ => rfl⟩ | exact ⟨_, rfl, ⟨rfl, rfl, .inl rfl⟩, rfl⟩ | exact ⟨_, rfl, ⟨rfl, rfl, .inr rfl⟩, rfl⟩ | exact ⟨_, rfl, ⟨rfl, rfl, rfl, rfl, rfl⟩, rfl⟩ | exact ⟨_, rfl, ⟨rfl, rfl⟩, fun _ => Iff.rfl⟩ | refine ⟨_, rfl, rfl, ?_⟩ | refine ⟨_, rfl, ⟨rfl, rfl, rfl⟩, ?_⟩ | refine And.intro ?_ ?_)
theorem kvCopy_s {w0 : World} {U : Nat → Prop} {nb N : Nat} {H : List HE} {K : SV → Option HE → Prop} (i : Nat) (cs : List KC) (hi : getH H i = kvE cs)
    (hK : K (.p N 0) (some (kvE cs))) : CallS Try.prog w0 U nb 51 [.p i 0] H N K :=
  seg_new1 119 [] [] false zS (kcs cs) (fun ρ w h => by
    obtain ⟨sb, mb, h1, h0, h2, h3⟩ := h.at.ent i _ (getH_obj1 hi)
    have e : SV.denL ρ [.p i 0] = [.pointer (some ⟨sb, 0, none⟩)] := by simp [SV.denL, SV.den, atB, h1]
    rw [e]
    exact kvCopy_any cs w sb mb h0 h2 h3) hK
set_option maxRecDepth 100000 in
set_option maxHeartbeats 1000000 in
theorem logCopy (l : LogM) (hl : l.ok) : Spec Try.prog 18 [.p 0 0] (logH l) fun s H1 => s = .p 4 0 ∧ H1 = logH l ++ logHi 4 l := by
  have hl2 := hl.2
  have hl1 := hl.1
  refine spec_x Try.func18 rfl 4 rfl rfl fun w0 U => ?_
  repeat' ((conv => whnf); first
      | with_reducible refine Br.tt ?_
      | with_reducible refine Br.ff ?_
      | with_reducible refine Br.nt ?_
      | with_reducible refine Br.nf ?_
      | with_reducible refine Br.eeI ?_
      | with_reducible refine Br.nnI ?_
      | refine Br.yes (by decide) ?_
      | refine Br.no (by decide) ?_
      | refine Need.go rfl ?_
      | refine QuiD.quiet (by kernel_rfl) ?_
      | refine draw_go tabOK (by kernel_rfl) ?_
      | refine Need.go ⟨rfl, rfl⟩ ?_
      | refine Need.go ⟨⟨rfl, rfl, rfl⟩, rfl⟩ ?_
      | with_reducible refine Br.dec (fun h => ?_) (fun h => ?_)
      | with_reducible refine Br.eqI (fun h => ?_) (fun h => ?_)
      | with_reducible refine Br.neI (fun h => ?_) (fun h => ?_)
      | with_reducible refine Br.eqS (fun h => ?_) (fun h => ?_)
      | with_reducible refine Br.neS (fun h => ?_) (fun h => ?_)
      | with_reducible refine Br.nd (fun h => ?_) (fun h => ?_)
      | refine Ar.i64 (by omega) (by omega) ?_
      | refine call_inlineL (f := 50) Try.func50 rfl ?_
      | refine kvCopy_s 1 l.cs rfl ?_
      | refine cloneE_s (.os 2 l.ents.length) l.ents.length (entF l.ents) (fun ρ w h => sl_os h rfl) (entF_one l.ents) (by omega) ?_
      | refine cloneR_s (.os 3 l.ress.length) l.ress.length (resF l.ress) (fun ρ w h => sl_os h rfl) (resF_one l.ress) (by omega) ?_
      | refine Need.go (by first | omega | decide | (simp <;> omega) | fail) ?_
      | refine Need.go (by first | (simp [Value.oneCell'] <;> omega) | fail) ?_
      | refine Need.go ⟨rfl, by omega, getD_one rfl rfl⟩ ?_
      | refine Need.go ⟨rfl, by omega, fun _ _ _ _ => rfl⟩ ?_
      | refine Br.both (fun h => ?_) (fun h => ?_))
  all_goals (conv => whnf)
  refine ⟨_, _, ⟨rfl, rfl⟩, by simp, trivial, ⟨[some 0, some 1, some 2, some 3, some 7, some 4, some 5, some 6], ⟨by decide, rfl⟩, ?_, ?_⟩⟩
  all_goals repeat' (first | exact trivial | exact .inl ⟨rfl, rfl⟩ | rfl | exact .inr ⟨_, rfl, rfl, rfl⟩ | exact ⟨_, rfl, trivial⟩ | exact ⟨_, rfl, rfl⟩ | exact ⟨_, rfl, ⟨rfl, rfl, rfl⟩, fun _ _ _ _ => rfl⟩ | exact ⟨_, rfl, ⟨rfl, rfl, .inl rfl⟩, rfl⟩ | exact ⟨_, rfl, ⟨rfl, rfl, .inr rfl⟩, rfl⟩ | exact ⟨_, rfl, ⟨rfl, rfl, rfl, rfl, rfl⟩, rfl⟩ | exact ⟨_, rfl, ⟨rfl, rfl⟩, fun _ => Iff.rfl⟩ | refine ⟨_, rfl, rfl, ?_⟩ | refine ⟨_, rfl, ⟨rfl, rfl, rfl⟩, ?_⟩ | refine And.intro ?_ ?_)
end Go.Proofs.Ytlphkjbadjdleaa
