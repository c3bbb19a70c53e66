/-
  The document's master and the program's: they agree, whatever is done. No condition.
-/
import Derived.Test.YtghfigeepnbjaaaRM5
import Derived.Test.YtghfigeepnbjaaaMasR
namespace Go.Proofs.Ytghfigeepnbjaaa
/-- What is taken by the document's master. -/
def takeD (m : RMasM) (f k ep ix now : Int) : RMasM × List SndM :=
  if k = 7 then (m, [cfgM m.ch f])
  else if f < 0 ∨ m.c.nodes ≤ f then (m, [])
  else if k = 11 then (if ¬ ep = m.ch.epoch then ({ m with heard := hearD m f (nearM now) }, [cfgM m.ch f]) else if (ix = 1 ∧ (sinceM m.ch f).2 = true) ∧ wholeR m f = false then ({ m with heard := hearD m f (nearM now), knows := dropN m.knows f ++ [f] }, []) else ({ m with heard := hearD m f (nearM now) }, []))
  else if k = 9 then (if ¬ ep = m.ch.epoch then (m, [cfgM m.ch f]) else if tailM m.ch = f then (m, [sureM f ep ix]) else (m, []))
  else if k = 12 ∧ ep = m.ch.epoch ∧ m.ch.drain = f ∧ mayOut m f = true then (outD m f, allN (outD m f).ch m.c.nodes.toNat)
  else (m, [])
structure Agr (m : MasM) (r : RMasM) : Prop where
  ch : r.ch = m.ch
  nodes : r.c.nodes = m.nodes
  pat : r.c.patience = m.patience
  heard : r.heard = m.heard
  known : ∀ i : Nat, i < 6 → (m.whole i = true ↔ (i : Int) ∈ r.knows)
  among : ∀ k ∈ r.knows, inM m k
theorem Agr.rok {m : MasM} {r : RMasM} (h : Agr m r) (hm : m.ok) (hl : r.knows.length ≤ 1000) : r.ok :=
  ⟨h.nodes ▸ hm.nodes, h.pat ▸ hm.pat, h.ch ▸ hm.ch, h.heard ▸ hm.heard, hl⟩
theorem mem_dropN {l : List Int} {n k : Int} : k ∈ dropN l n ↔ k ∈ l ∧ ¬ k = n := by
  unfold dropN
  simp [List.mem_filter]
theorem dropN_self {l : List Int} {n : Int} (h : ¬ n ∈ l) : dropN l n = l := by
  unfold dropN
  rw [List.filter_eq_self]
  intro a ha
  have : ¬ a = n := fun e => h (e ▸ ha)
  simpa using this
theorem wholeR_iff {r : RMasM} {n : Int} : wholeR r n = true ↔ n ∈ r.knows := by
  unfold wholeR
  rw [decide_eq_true_iff]
  constructor
  · intro h
    refine Classical.byContradiction fun hn => ?_
    rw [dropN_self hn] at h
    omega
  · intro h
    refine Nat.lt_of_le_of_ne (dropN_len _ _) fun e => ?_
    have : dropN r.knows n = r.knows := by
      unfold dropN at e ⊢
      exact List.filter_eq_self.2 (fun a ha => (List.length_filter_eq_length_iff.1 e) a ha)
    rw [← this] at h
    exact (mem_dropN.1 h).2 rfl
theorem goesR_iff {r : RMasM} {n : Int} : goesR r n = true ↔ ∃ k ∈ r.knows, ¬ k = n := by
  unfold goesR
  rw [decide_eq_true_iff, List.length_pos_iff_exists_mem]
  constructor
  · rintro ⟨k, hk⟩; exact ⟨k, mem_dropN.1 hk⟩
  · rintro ⟨k, hk⟩; exact ⟨k, mem_dropN.2 hk⟩
theorem agr_mem {m : MasM} {r : RMasM} (h : Agr m r) (hm : m.ok) {k : Int} (hk : k ∈ r.knows) : 0 ≤ k ∧ k < 6 := by
  obtain ⟨x, hx, rfl⟩ := h.among k hk
  exact mem_nn hm hx
theorem agr_goes {m : MasM} {r : RMasM} (h : Agr m r) (hm : m.ok) (n : Int) : goesR r n = mayGoM m n := by
  apply Bool.eq_iff_iff.2
  rw [goesR_iff]
  unfold mayGoM
  rw [List.any_eq_true]
  constructor
  · rintro ⟨k, hk, hn⟩
    obtain ⟨x, hx, rfl⟩ := h.among k hk
    have h6 := mem_nn hm hx
    refine ⟨x, hx, ?_⟩
    have := (h.known x.1.toNat (by omega)).2 (by rw [Int.toNat_of_nonneg h6.1]; exact hk)
    simp [this, hn]
  · rintro ⟨x, hx, hw⟩
    have h6 := mem_nn hm hx
    simp only [Bool.and_eq_true, Bool.not_eq_true', beq_eq_false_iff_ne, ne_eq] at hw
    have := (h.known x.1.toNat (by omega)).1 hw.2
    rw [Int.toNat_of_nonneg h6.1] at this
    exact ⟨x.1, this, hw.1⟩
theorem agr_whole {m : MasM} {r : RMasM} (h : Agr m r) (hm : m.ok) (n : Int) : wholeR r n = wholeM m n := by
  apply Bool.eq_iff_iff.2
  rw [wholeR_iff]
  unfold wholeM
  rw [Bool.and_eq_true, inM_iff hm]
  constructor
  · intro hk
    have h6 := agr_mem h hm hk
    refine ⟨h.among n hk, (h.known n.toNat (by omega)).2 ?_⟩
    rwa [Int.toNat_of_nonneg h6.1]
  · rintro ⟨hi, hw⟩
    obtain ⟨x, hx, rfl⟩ := hi
    have h6 := mem_nn hm hx
    have := (h.known x.1.toNat (by omega)).1 hw
    rwa [Int.toNat_of_nonneg h6.1] at this
theorem agr_out {m : MasM} {r : RMasM} (h : Agr m r) (hm : m.ok) {n : Int} (h0 : (withoutM m.ch n).2 = 0) : Agr (goneM m n) (outD r n) := by
  have hn := withoutM_in h0 hm.ch
  refine ⟨?_, h.nodes, h.pat, h.heard, fun i hi => ?_, fun k hk => ?_⟩
  · show (withoutM r.ch n).1 = (withoutM m.ch n).1
    rw [h.ch]
  · show (if i = n.toNat then false else m.whole i) = true ↔ (i : Int) ∈ dropN r.knows n
    rw [mem_dropN, ← h.known i hi]
    by_cases e : i = n.toNat
    · rw [if_pos e]
      constructor
      · intro h; cases h
      · rintro ⟨_, h⟩; exact absurd (by omega) h
    · rw [if_neg e]
      constructor
      · intro h; exact ⟨h, by omega⟩
      · intro h; exact h.1
  · have hk := mem_dropN.1 hk
    exact (gone_in hm h0 k).2 ⟨h.among k hk.1, hk.2⟩
theorem agr_mayOut {m : MasM} {r : RMasM} (h : Agr m r) (hm : m.ok) (n : Int) : mayOut r n = (decide ((withoutM m.ch n).2 = 0) && mayGoM m n) := by
  unfold mayOut
  rw [h.ch, agr_goes h hm]
  rfl
/-- An operation's outcome is the same with both, and behind it they agree. -/
structure SameO (B : Nat) (o : Out) (r : RMasM) (l : List SndM) : Prop where
  agr : Agr o.m r
  l : l = o.l
  len : r.knows.length ≤ B
theorem inM_at {m : MasM} (hm : m.ok) {n : Int} (h : inM m n) : 0 ≤ atM m.ch.mem n := (isMem_iff hm).1 ((inM_iff hm).2 h)
theorem agr_join {m : MasM} {r : RMasM} (h : Agr m r) (hm : m.ok) {B : Nat} (hB : r.knows.length ≤ B) (n now : Int) : SameO (B + 1) (joinMM m n now) (joinD r n now).1 (joinD r n now).2.1 ∧ (joinD r n now).2.2 = (joinMM m n now).er := by
  unfold joinD joinMM
  rw [h.ch, h.nodes]
  by_cases h1 : n < 0 ∨ m.nodes ≤ n
  · rw [if_pos h1, if_pos h1]; exact ⟨⟨h, rfl, by show r.knows.length ≤ _; omega⟩, rfl⟩
  · rw [if_neg h1, if_neg h1]
    by_cases h3 : (withM m.ch n).2 = 0
    · rw [if_pos h3, if_pos h3]
      obtain ⟨_, e, _, hn, ha, _⟩ := with_ok hm.ch (pair_eta _ h3)
      have hout : ¬ n ∈ r.knows := fun hk => by
        have := inM_at hm (h.among n hk)
        omega
      refine ⟨⟨⟨rfl, h.nodes, h.pat, ?_, fun i hi => ?_, fun k hk => ?_⟩, rfl, by show r.knows.length ≤ _; omega⟩, rfl⟩
      · show hearD r n (nearM now) = fun i => if i = n.toNat then nearM now else m.heard i
        funext i
        unfold hearD
        rw [h.heard]
      · show (if i = n.toNat then false else m.whole i) = true ↔ (i : Int) ∈ r.knows
        rw [← h.known i hi]
        by_cases e : i = n.toNat
        · rw [if_pos e]
          constructor
          · intro h; cases h
          · intro hw
            have := (h.known i hi).1 hw
            rw [show (i : Int) = n by omega] at this
            exact absurd this hout
        · rw [if_neg e]
      · obtain ⟨x, hx, ek⟩ := h.among k hk
        refine ⟨x, ?_, ek⟩
        show x ∈ (withM m.ch n).1.mem
        rw [e]
        exact List.mem_append_left _ hx
    · rw [if_neg h3, if_neg h3]
      exact ⟨⟨h, rfl, by show r.knows.length ≤ _; omega⟩, rfl⟩
theorem agr_hear {m : MasM} {r : RMasM} (h : Agr m r) (f now : Int) : Agr (hearM m f now) { r with heard := hearD r f (nearM now) } := by
  refine ⟨h.ch, h.nodes, h.pat, ?_, h.known, h.among⟩
  show hearD r f (nearM now) = fun i => if i = f.toNat then nearM now else m.heard i
  funext i
  unfold hearD
  rw [h.heard]
theorem agr_take {m : MasM} {r : RMasM} (h : Agr m r) (hm : m.ok) {B : Nat} (hB : r.knows.length ≤ B) (f k ep ix now : Int) : SameO (B + 1) (takeM m f k ep ix now) (takeD r f k ep ix now).1 (takeD r f k ep ix now).2 := by
  have hl : r.knows.length ≤ B + 1 := by omega
  have hh := agr_hear h f now
  obtain ⟨rc, rch, rh, rk⟩ := r
  have hB : rk.length ≤ B := hB
  obtain rfl : rch = m.ch := h.ch
  have hno : rc.nodes = m.nodes := h.nodes
  unfold takeD takeM
  dsimp only
  rw [hno]
  by_cases h7 : k = 7
  · rw [if_pos h7, if_pos h7]; exact ⟨h, rfl, hl⟩
  rw [if_neg h7, if_neg h7]
  by_cases h1 : f < 0 ∨ m.nodes ≤ f
  · rw [if_pos h1, if_pos h1]; exact ⟨h, rfl, hl⟩
  rw [if_neg h1, if_neg h1]
  by_cases h11 : k = 11
  · rw [if_pos h11, if_pos h11]
    by_cases hep : ¬ ep = m.ch.epoch
    · rw [if_pos hep, if_pos hep]; exact ⟨hh, rfl, hl⟩
    · rw [if_neg hep, if_neg hep]
      by_cases hi : ix = 1 ∧ isMemM m f = true
      · have hi' : ix = 1 ∧ (sinceM m.ch f).2 = true := hi
        rw [if_pos hi]
        have hin := (inM_iff hm).1 hi.2
        have h6 := isMem_in hm hi.2
        by_cases hw : wholeR (⟨rc, m.ch, rh, rk⟩ : RMasM) f = false
        · rw [if_pos ⟨hi', hw⟩]
          refine ⟨⟨h.ch, h.nodes, h.pat, hh.heard, fun i hi => ?_, fun k hk => ?_⟩, rfl, ?_⟩
          · show (if i = f.toNat then true else m.whole i) = true ↔ (i : Int) ∈ dropN rk f ++ [f]
            rw [List.mem_append, List.mem_singleton, mem_dropN, ← h.known i hi]
            by_cases e : i = f.toNat
            · rw [if_pos e]
              exact ⟨fun _ => .inr (by omega), fun _ => rfl⟩
            · rw [if_neg e]
              constructor
              · intro hw; exact .inl ⟨hw, by omega⟩
              · rintro (hw | hw)
                · exact hw.1
                · exact absurd (by omega) e
          · rcases List.mem_append.1 hk with hk | hk
            · exact h.among k (mem_dropN.1 hk).1
            · rw [List.mem_singleton.1 hk]; exact hin
          · show (dropN rk f ++ [f]).length ≤ B + 1
            have := dropN_len rk f
            rw [List.length_append, List.length_singleton]
            omega
        · rw [if_neg (fun hx => hw hx.2)]
          have hk : f ∈ rk := wholeR_iff.1 (by simpa using hw)
          refine ⟨⟨h.ch, h.nodes, h.pat, hh.heard, fun i hi => ?_, h.among⟩, rfl, hl⟩
          show (if i = f.toNat then true else m.whole i) = true ↔ (i : Int) ∈ rk
          by_cases e : i = f.toNat
          · rw [if_pos e]
            refine ⟨fun _ => ?_, fun _ => rfl⟩
            rwa [show (i : Int) = f by omega]
          · rw [if_neg e]; exact h.known i hi
      · rw [if_neg hi, if_neg (fun hx => hi hx.1)]; exact ⟨hh, rfl, hl⟩
  rw [if_neg h11, if_neg h11]
  by_cases h9 : k = 9
  · rw [if_pos h9, if_pos h9]
    split
    · exact ⟨h, rfl, hl⟩
    · split <;> exact ⟨h, rfl, hl⟩
  rw [if_neg h9, if_neg h9]
  by_cases h12 : k = 12 ∧ ep = m.ch.epoch ∧ m.ch.drain = f ∧ mayGoM m f = true ∧ (withoutM m.ch f).2 = 0
  · rw [if_pos h12, if_pos ⟨h12.1, h12.2.1, h12.2.2.1, by rw [agr_mayOut h hm, h12.2.2.2.1, h12.2.2.2.2]; rfl⟩]
    have h3 := h12.2.2.2.2
    refine ⟨agr_out h hm h3, ?_, Nat.le_trans (Nat.le_trans (dropN_len _ _) hB) (by omega)⟩
    show allN (outD ⟨rc, m.ch, rh, rk⟩ f).ch m.nodes.toNat = allN (goneM m f).ch m.nodes.toNat
    rw [(agr_out h hm h3).ch]
  · rw [if_neg h12, if_neg (fun hx => h12 ⟨hx.1, hx.2.1, hx.2.2.1, by
      have := hx.2.2.2
      rw [agr_mayOut h hm] at this
      simp only [Bool.and_eq_true, decide_eq_true_eq] at this
      exact ⟨this.2, this.1⟩⟩)]
    exact ⟨h, rfl, hl⟩
/-- A member that is silent, with both. -/
theorem agr_one {m : MasM} {r : RMasM} (h : Agr m r) (hm : m.ok) (now n : Int) (g : Bool) : (tickOne (nearM now) r g n).1 = (if lateM m now n then outD r n else r) ∧ (tickOne (nearM now) r g n).2 = (if lateM m now n then true else g) := by
  have e : (r.c.patience < nearM now - r.heard n.toNat ∧ mayOut r n = true) ↔ lateM m now n = true := by
    unfold lateM
    rw [agr_mayOut h hm, h.pat, h.heard]
    simp only [Bool.and_eq_true, decide_eq_true_eq]
    constructor
    · rintro ⟨h1, h2, h3⟩; exact ⟨h1, h3, h2⟩
    · rintro ⟨h1, h2, h3⟩; exact ⟨h1, h3, h2⟩
  unfold tickOne
  by_cases hl : lateM m now n = true
  · rw [if_pos (e.2 hl), if_pos hl, if_pos hl]; exact ⟨rfl, rfl⟩
  · rw [if_neg (fun x => hl (e.1 x)), if_neg hl, if_neg hl]; exact ⟨rfl, rfl⟩
theorem agr_tickN {m : MasM} {r : RMasM} (h : Agr m r) (hm : m.ok) {B : Nat} (hB : r.knows.length ≤ B) (now : Int) (l : List (Int × Int)) : ∀ k, k ≤ l.length →
    ∃ r1 g, Agr (tickN m now l k).1 r1 ∧ r1.knows.length ≤ B ∧ g = (tickN m now l k).2 ∧ tickAll (nearM now) l r false = tickAll (nearM now) (l.drop k) r1 g
  | 0, _ => ⟨r, false, h, hB, rfl, rfl⟩
  | k + 1, hk => by
    obtain ⟨r1, g, h1, h2, h3, h4⟩ := agr_tickN h hm hB now l k (by omega)
    have hok := tick_ok hm now l k
    have ho := agr_one h1 hok now (l.getD k (0, 0)).1 g
    rw [tickAll_cons _ _ (by omega), ho.1, ho.2] at h4
    simp only [tickN]
    by_cases hl : lateM (tickN m now l k).1 now (l.getD k (0, 0)).1 = true
    · rw [if_pos hl, if_pos hl] at h4
      rw [if_pos hl]
      refine ⟨_, _, agr_out h1 hok ?_, Nat.le_trans (dropN_len _ _) h2, rfl, h4⟩
      unfold lateM at hl
      simp only [Bool.and_eq_true, decide_eq_true_eq] at hl
      exact hl.2.2
    · rw [if_neg hl, if_neg hl] at h4
      rw [if_neg hl]
      exact ⟨r1, g, h1, h2, h3, h4⟩
theorem agr_tick {m : MasM} {r : RMasM} (h : Agr m r) (hm : m.ok) {B : Nat} (hB : r.knows.length ≤ B) (now : Int) : SameO (B + 1) (tickM m now) (tickD r now).1 (tickD r now).2 := by
  obtain ⟨r1, g, h1, h2, h3, h4⟩ := agr_tickN h hm hB now m.ch.mem m.ch.mem.length (Nat.le_refl _)
  rw [List.drop_length] at h4
  have e : tickAll (nearM now) m.ch.mem r false = (r1, g) := h4
  unfold tickD tickM
  rw [h.ch, e, h3, h.nodes]
  cases hg : (tickN m now m.ch.mem m.ch.mem.length).2 with
  | true =>
    refine ⟨h1, ?_, by show r1.knows.length ≤ _; omega⟩
    show allN r1.ch m.nodes.toNat = allN (tickN m now m.ch.mem m.ch.mem.length).1.ch (tickN m now m.ch.mem m.ch.mem.length).1.nodes.toNat
    rw [h1.ch, (tick_heard now _ _).2.2]
  | false =>
    rw [tick_same now _ _ hg] at h1
    exact ⟨h1, rfl, by show r1.knows.length ≤ _; omega⟩
end Go.Proofs.Ytghfigeepnbjaaa
