/-
  The document's client: Take as one; what is so of it behind each operation. No condition.
-/
import Derived.Test.YtghfigeepnbjaaaGreatRC7
import Derived.Test.YtghfigeepnbjaaaGreatRC8
import Derived.Test.YtghfigeepnbjaaaGreatRC9
import Derived.Test.YtghfigeepnbjaaaGreatCliT
namespace Go.Proofs.YtghfigeepnbjaaaGreat
open Go.RowKit
/-- Is a chain taken? -/
abbrev accC (c : CliM) (f : FrM) : Prop := f.kind = 8 ∧ okCh f.ch = true ∧ c.ch.epoch ≤ f.ch.epoch
def tkY (y : RCy) (c : CliM) (f : FrM) (fa : Option Addr) (fc : Nat) (n : Int) : RCy :=
  if accC c f then (if c.doing = 1 then { y with ma := fa, mn := f.ch.mem.length, mc := fc, ce := f.ch.epoch, at' := n } else { y with ma := fa, mn := f.ch.mem.length, mc := fc }) else flY y (takeC c f n).1
theorem rcTake (y : RCy) (c : CliM) (hy : RcOk y c) (hc : c.ok) (f : FrM) (fa : Option Addr) (fc : Nat) (now : Int) {Z : Nat → Prop} {Q : World → Prop} {Zf : Nat → Prop} {Qf : World → Prop} (hl : f.ch.mem.length ≤ 1000000) (hqf : ∀ u, Qf u → ChSl u (.slice fa f.ch.mem.length fc) f.ch) (hfa : okCh f.ch = true → ∃ b off, fa = some ⟨b, off, none⟩) :
    TkS y c f fa fc now Z Q Zf Qf (tkY y c f fa fc (nearC now)) (takeC c f (nearC now)).1 (takeC c f (nearC now)).2 := by
  have hfl := hy.fl hc
  have hn := nearC_rng now
  by_cases ha : accC c f
  · obtain ⟨h8, hok, hep⟩ := ha
    have e : takeC c f (nearC now) = if c.doing = 1 then tryC { c with ch := f.ch } (nearC now) else ({ c with ch := f.ch }, []) := by
      unfold takeC
      rw [if_pos h8, if_neg (by rw [hok]; simp; omega)]
    unfold tkY
    rw [if_pos ⟨h8, hok, hep⟩, e]
    by_cases hd : c.doing = 1
    · rw [if_pos hd, if_pos hd]
      obtain ⟨k1, k2⟩ := hy.call (by omega)
      exact rcTake_try y c f fa fc now hc.tries h8 hok hep hl hqf hd (hfa hok) k1 k2
    · rw [if_neg hd, if_neg hd]
      exact rcTake_new y c f fa fc now h8 hok hep hl hqf hd
  · unfold tkY
    rw [if_neg ha]
    by_cases h8 : f.kind = 8
    · have hx : okCh f.ch = false ∨ f.ch.epoch < c.ch.epoch := by
        cases hk : okCh f.ch with
        | false => exact .inl rfl
        | true => exact .inr (Int.not_le.1 fun h => ha ⟨h8, hk, h⟩)
      have e : takeC c f (nearC now) = (c, []) := by unfold takeC; rw [if_pos h8, if_pos hx]
      rw [e, hfl]
      exact rcTake_no8 y c f fa fc now h8 hx hl hqf
    by_cases h2 : f.kind = 2
    · by_cases hm : ¬ c.doing = 0 ∧ f.client = c.id ∧ f.seq = c.seq
      · have e : takeC c f (nearC now) = (endC c ⟨1, 0, f.res.code, f.res.value, f.res.version, f.res.pos⟩, []) := by unfold takeC; rw [if_neg h8, if_pos h2, if_pos hm]
        rw [e]
        have ey : flY y (endC c ⟨1, 0, f.res.code, f.res.value, f.res.version, f.res.pos⟩) = y := by
          have : (endC c ⟨1, 0, f.res.code, f.res.value, f.res.version, f.res.pos⟩).doing = 0 := rfl
          unfold flY; rw [if_neg (by omega), if_pos this]
        rw [ey]
        exact rcTake_end y c f fa fc now h2 hm.1 hm.2.1 hm.2.2
      · have e : takeC c f (nearC now) = (c, []) := by unfold takeC; rw [if_neg h8, if_pos h2, if_neg hm]
        rw [e, hfl]
        exact rcTake_none y c f fa fc now h8 (fun h => hm h.2) (fun h => by omega)
    by_cases h3 : f.kind = 3
    · by_cases hm : c.doing = 2 ∧ f.client = c.id ∧ f.seq = c.seq ∧ f.try' = c.tries
      · have e : takeC c f (nearC now) = refC c f.reason (nearC now) := by unfold takeC; rw [if_neg h8, if_neg h2, if_pos h3, if_pos hm]
        rw [e]
        unfold refC
        by_cases hr : f.reason = 6 ∨ f.reason = 5 ∨ f.reason = 7
        · rw [if_pos hr]
          exact rcTake_unsure y c f fa fc now hc h3 hm.1 hm.2.1 hm.2.2.1 hm.2.2.2 hr
        · rw [if_neg hr]
          by_cases hr2 : f.reason = 2 ∨ f.reason = 10
          · rw [if_pos hr2]
            have ey : flY y (giveC c f.reason).1 = y := by
              have : (giveC c f.reason).1.doing = 0 := rfl
              unfold flY; rw [if_neg (by omega), if_pos this]
            rw [ey]
            exact rcTake_leave y c f fa fc now h3 hm.1 hm.2.1 hm.2.2.1 hm.2.2.2 hr2
          · rw [if_neg hr2]
            exact rcTake_sure y c f fa fc now hc h3 hm.1 hm.2.1 hm.2.2.1 hm.2.2.2 hr hr2
      · have e : takeC c f (nearC now) = (c, []) := by unfold takeC; rw [if_neg h8, if_neg h2, if_pos h3, if_neg hm]
        rw [e, hfl]
        exact rcTake_none y c f fa fc now h8 (fun h => h2 h.1) (fun h => hm h.2)
    · have e : takeC c f (nearC now) = (c, []) := by unfold takeC; rw [if_neg h8, if_neg h2, if_neg h3]
      rw [e, hfl]
      exact rcTake_none y c f fa fc now h8 (fun h => h2 h.1) (fun h => h3 h.1)
theorem fl_keeps (y : RCy) (c : CliM) : (flY y c).ma = y.ma ∧ (flY y c).mn = y.mn ∧ (flY y c).mc = y.mc ∧ (flY y c).ck = y.ck ∧ (flY y c).cc = y.cc ∧ (flY y c).qn = y.qn := by
  unfold flY
  split
  · exact ⟨rfl, rfl, rfl, rfl, rfl, rfl⟩
  · split <;> exact ⟨rfl, rfl, rfl, rfl, rfl, rfl⟩
theorem fl_ok {y : RCy} {c c' : CliM} (h : RcOk y c) (hc : c'.ok) (hid : c'.id = c.id) (hcl : c'.classes = c.classes) (hd : ¬ c'.doing = 0 → ¬ c.doing = 0) : RcOk (flY y c') c' := by
  obtain ⟨k1, k2, k3, k4, k5, k6⟩ := fl_keeps y c'
  have hdo := hc.doing
  have hs := hc.since
  have ht := hc.til
  refine ⟨fun h1 => ?_, fun h3 => ?_, fun h0 => ?_, ?_, ?_⟩
  · unfold flY
    rw [if_neg (by omega), if_neg (by omega)]
  · unfold flY
    rw [if_pos h3]
  · rw [k4, k5, hid]
    exact h.call (hd h0)
  · rw [k6, hcl]
    exact h.qn
  · unfold flY
    have hr := h.rng
    split
    · exact ht
    · split
      · exact hr
      · exact ⟨hs.1, by show c'.since ≤ 2199023255552; omega⟩
theorem fact_of {y y' : RCy} {c c' : ChM} {Q : World → Prop} (h : chFact y c Q) (hc : c' = c) (h1 : y'.ma = y.ma) (h2 : y'.mn = y.mn) (h3 : y'.mc = y.mc) : chFact y' c' Q := by
  subst hc
  intro hk
  obtain ⟨b, off, a1, a2, a3⟩ := h hk
  exact ⟨b, off, h1.trans a1, h2.trans a2, fun u hu => h3 ▸ a3 u hu⟩
/-- What is so of both clients. -/
structure TwoC (d : CfgM) (n : Int) (k : Nat) (c : CliM) (y : RCy) (Q : World → Prop) : Prop where
  st : CliSt d n k c
  ok : RcOk y c
  fact : chFact y c.ch Q
theorem two_new {d : CfgM} (h : okM d = true) (n : Int) (hn : 0 ≤ n) (qa : Option Addr) (qc : Nat) (Q : World → Prop) : TwoC d n 0 (newCli d n) ⟨d, qa, d.quanta.length, qc, none, 0, 0, 0, 0, 0, 0⟩ Q :=
  ⟨new_cst h n, ⟨fun h => rfl, fun h => rfl, fun h => absurd rfl h, rfl, show (0 : Int) ≤ 0 ∧ (0 : Int) ≤ 2199023255552 by decide⟩, fun h => by cases h⟩
theorem two_tick {d : CfgM} {n : Int} {k : Nat} {c : CliM} {y : RCy} {Q : World → Prop} (h : TwoC d n k c y Q) {t : Int} (ht : 0 ≤ t ∧ t ≤ 1099511627776) : TwoC d n (k + 1) (tickC c t).1 (flY y (tickC c t).1) Q := by
  have hs := tick_cst h.st ht
  obtain ⟨s1, s2, s3⟩ := tick_same c t
  obtain ⟨k1, k2, k3, k4, k5, k6⟩ := fl_keeps y (tickC c t).1
  exact ⟨hs.mono (Nat.le_succ k), fl_ok h.ok hs.ok (hs.id.trans h.st.id.symm) (hs.cls.trans h.st.cls.symm) (tick_doing t), fact_of h.fact s3 k1 k2 k3⟩
theorem callC_ch (c : CliM) (o : OpM) (cls dl now : Int) : (callC c o cls dl now).1.1.ch = c.ch := by
  unfold callC
  split
  · rfl
  · split
    · rfl
    · split <;> rfl
theorem two_call {d : CfgM} {n : Int} {k : Nat} {c : CliM} {y : RCy} {Q : World → Prop} (h : TwoC d n k c y Q) (hk : k ≤ 1000000) (o : OpM) (cls dl now : Int) : TwoC d n (k + 1) (callC c o cls dl now).1.1 (beY y c (callC c o cls dl now)) Q := by
  have hs := call_cst h.st hk o cls dl now
  have hch := callC_ch c o cls dl now
  refine ⟨hs, ?_, fact_of h.fact hch ?_ ?_ ?_⟩
  · have hsi := hs.ok.since
    have hdo := hs.ok.doing
    revert hs hsi hdo
    unfold beY
    by_cases hx : (callC c o cls dl now).2 = 0
    · rw [if_pos hx]
      intro hs hsi hdo
      have hd3 : ¬ (callC c o cls dl now).1.1.doing = 3 := by
        revert hx
        unfold callC
        split
        · intro hx; cases hx
        · split
          · intro hx; cases hx
          · split
            · intro _ h; revert h; show ¬ (2 : Int) = 3; decide
            · intro _ h; revert h; show ¬ (1 : Int) = 3; decide
      exact ⟨fun _ => rfl, fun h => absurd h hd3, fun _ => ⟨rfl, h.st.id.trans hs.id.symm⟩, h.ok.qn.trans (h.st.cls.trans hs.cls.symm), ⟨hsi.1, by show (callC c o cls dl now).1.1.since ≤ 2199023255552; omega⟩⟩
    · rw [if_neg hx]
      intro hs _ _
      have e : (callC c o cls dl now).1.1 = c := by
        revert hx
        unfold callC
        split
        · intro _; rfl
        · split
          · intro _; rfl
          · split
            · intro hx; exact absurd rfl hx
            · intro hx; exact absurd rfl hx
      rw [e]
      exact h.ok
  all_goals
    unfold beY
    split <;> rfl
theorem take_doing {c : CliM} (f : FrM) (t : Int) (ha : ¬ accC c f) : (takeC c f t).1.ch = c.ch ∧ (¬ (takeC c f t).1.doing = 0 → ¬ c.doing = 0) := by
  unfold takeC
  split
  · rename_i h8
    split
    · exact ⟨rfl, fun h => h⟩
    · rename_i hx
      refine absurd ⟨h8, ?_, ?_⟩ ha
      · cases hk : okCh f.ch with
        | true => rfl
        | false => exact absurd (.inl hk) hx
      · exact Int.not_lt.1 fun h => hx (.inr h)
  · split
    · split
      · exact ⟨rfl, fun h => absurd rfl h⟩
      · exact ⟨rfl, fun h => h⟩
    · split
      · split
        · rename_i hm
          exact ⟨(ref_same c f.reason t).2.2, fun _ h => by omega⟩
        · exact ⟨rfl, fun h => h⟩
      · exact ⟨rfl, fun h => h⟩
theorem two_take {d : CfgM} {n : Int} {k : Nat} {c : CliM} {y : RCy} {Q : World → Prop} (h : TwoC d n k c y Q) (hk : k ≤ 1000000) (f : FrM) (fa : Option Addr) (fc : Nat) {Qf : World → Prop} (hqf : ∀ u, Qf u → ChSl u (.slice fa f.ch.mem.length fc) f.ch) (hfa : okCh f.ch = true → ∃ b off, fa = some ⟨b, off, none⟩) {t : Int} (ht : 0 ≤ t ∧ t ≤ 1099511627776) :
    TwoC d n (k + 1) (takeC c f t).1 (tkY y c f fa fc t) (fun u => if accC c f then Qf u else Q u) := by
  have hs := take_cst h.st hk f ht
  by_cases ha : accC c f
  · have e : takeC c f t = if c.doing = 1 then tryC { c with ch := f.ch } t else ({ c with ch := f.ch }, []) := by
      unfold takeC
      rw [if_pos ha.1, if_neg (by rw [ha.2.1]; simp; omega)]
    unfold tkY
    rw [if_pos ha]
    simp only [if_pos ha]
    rw [e] at hs ⊢
    by_cases hd : c.doing = 1
    · rw [if_pos hd] at hs ⊢
      rw [if_pos hd]
      refine ⟨hs, ⟨fun _ => rfl, fun h => absurd h (show ¬ (2 : Int) = 3 by decide), fun _ => h.ok.call (by omega), h.ok.qn, ⟨ht.1, by show t ≤ 2199023255552; omega⟩⟩, fun hk => ?_⟩
      obtain ⟨b, off, q⟩ := hfa ha.2.1
      subst q
      exact ⟨b, off, rfl, rfl, hqf⟩
    · rw [if_neg hd] at hs ⊢
      rw [if_neg hd]
      refine ⟨hs, ⟨h.ok.at1, h.ok.at3, h.ok.call, h.ok.qn, h.ok.rng⟩, fun hk => ?_⟩
      obtain ⟨b, off, q⟩ := hfa ha.2.1
      subst q
      exact ⟨b, off, rfl, rfl, hqf⟩
  · obtain ⟨t1, t2⟩ := take_doing f t ha
    unfold tkY
    rw [if_neg ha]
    simp only [if_neg ha]
    obtain ⟨k1, k2, k3, k4, k5, k6⟩ := fl_keeps y (takeC c f t).1
    exact ⟨hs, fl_ok h.ok hs.ok (hs.id.trans h.st.id.symm) (hs.cls.trans h.st.cls.symm) t2, fact_of h.fact t1 k1 k2 k3⟩
/-- What a client sends holds no members. -/
def plainL (l : List SndM) : Prop := l = [] ∨ l = [askS] ∨ ∃ c, l = [callS c]
theorem plain_tick (c : CliM) (t : Int) : plainL (tickC c t).2 := (tick_sent c t).imp id .inl
theorem plain_call (c : CliM) (o : OpM) (cls dl now : Int) : plainL (callC c o cls dl now).1.2 := by
  unfold callC
  split
  · exact .inl rfl
  · split
    · exact .inl rfl
    · split
      · exact .inr (.inr ⟨_, rfl⟩)
      · exact .inr (.inl rfl)
theorem plain_take (c : CliM) (f : FrM) (t : Int) : plainL (takeC c f t).2 := by
  unfold takeC
  split
  · split
    · exact .inl rfl
    · split
      · exact .inr (.inr ⟨_, rfl⟩)
      · exact .inl rfl
  · split
    · split <;> exact .inl rfl
    · split
      · split
        · exact (ref_sent c _ _).imp id .inl
        · exact .inl rfl
      · exact .inl rfl
theorem plain_q {l : List SndM} (h : plainL l) (w : World) : sndQ l (fun _ => .slice none 0 0) w ∧ ∀ r, r < l.length → (l.getD r sndZ).fr.ch.mem.length ≤ 1000000 := by
  have hz : ChSl w (.slice none 0 0) chN := ⟨none, 0, rfl, Nat.le_refl _, Nat.zero_le _, fun h => absurd h (Nat.lt_irrefl 0)⟩
  have key : ∀ r, r < l.length → (l.getD r sndZ).fr.ch = chN := fun r hr => by
    rcases h with rfl | rfl | ⟨c, rfl⟩
    · exact absurd hr (Nat.not_lt_zero r)
    · obtain rfl : r = 0 := by simpa using hr
      rfl
    · obtain rfl : r = 0 := by simpa using hr
      rfl
  exact ⟨fun r hr => by rw [key r hr]; exact hz, fun r hr => by rw [key r hr]; exact Nat.zero_le _⟩
end Go.Proofs.YtghfigeepnbjaaaGreat
