/-
  ClientSure, plainly. No program in sight, no condition.
-/
import Derived.Test.YtghfigeepnbjaaaCliO
namespace Go.Proofs.Ytghfigeepnbjaaa
def opK0 : OpM := ⟨2, [107], [], 0⟩
abbrev chA : ChM := ch1 1 0
theorem OnceSt.mono {d : CfgM} {n : Int} {k k' : Nat} {c : CliM} {e tried refused seq : Int} (h : OnceSt d n k c e tried refused seq) (hk : k ≤ k') : OnceSt d n k' c e tried refused seq := ⟨h.st.mono hk, h.hsq, h.htr, h.ref, h.bud, h.no, h.out, h.ch, h.acc⟩
/-- A rejected call had all its tries refused. -/
def RejF (c : CliM) (tried refused : Int) : Prop := (outcC c).2 = true → (outcC c).1.kind = 2 → tried ≤ refused
theorem OnceTo.rejF {d : CfgM} {n : Int} {k : Nat} {c c' : CliM} {e tried refused seq : Int} {g : Bool} (h : OnceTo d n k c c' e tried refused seq g) (hc : (outcC c).2 = false) : RejF c' tried refused := fun h1 h2 => h.rej hc h1 h2
theorem sure_new {d : CfgM} (hd : okM d = true) : takeC (newCli d 0) (frCfg chA) (nearC 0) = ({ newCli d 0 with ch := chA }, []) ∧ OnceSt d 0 1 { newCli d 0 with ch := chA } 0 0 0 0 := by
  have hok : okCh chA = true := ch1_ok (by decide) (by decide)
  have e : takeC (newCli d 0) (frCfg chA) (nearC 0) = ({ newCli d 0 with ch := chA }, []) := by
    rw [takeC_cfg _ hok]
    rfl
  refine ⟨e, ?_⟩
  have h := once_cfg (once_new hd 0) (by decide) (e' := 0) (by decide) (a := 0) (by decide) (nearC_rng 0) (r := takeC (newCli d 0) (frCfg chA) (nearC 0)) rfl
  rw [e] at h
  rcases h with ⟨_, h⟩ | ⟨x, h, _⟩
  · exact h.st
  · cases h
/-- A call that may be begun. -/
theorem sure_call {d : CfgM} (hd : okM d = true) {k : Nat} {c : CliM} {tried refused seq : Int} (h : OnceSt d 0 k c 0 tried refused seq) (hk : k ≤ 1000000) (hch : c.ch = chA) (hdo : c.doing = 0) {dl now : Int} (hdl : 0 ≤ dl ∧ dl ≤ 1099511627776) :
    ∃ c' x, callC c opK0 0 dl now = ((c', [x]), 0) ∧ OnceSt d 0 (k + 1) c' 0 1 0 (seq + 1) ∧ ¬ c'.doing = 0 ∧ c'.ch = chA := by
  obtain ⟨q1, _⟩ := okM_cli hd
  have e : callC c opK0 0 dl now = (tryC (beginC c opK0 0 dl) (nearC now), 0) := by
    unfold callC
    rw [if_neg (by omega), if_neg (by
      have : chkO opK0 = 0 := by decide
      have := h.st.cls
      omega), if_pos (by rw [hch]; decide)]
  have h1 := (once_call h hd hk opK0 0 dl now e).2
  refine ⟨_, _, e, ?_, by simp [tryC], hch⟩
  rcases h1 with ⟨_, x, hx, ⟨_, h2⟩ | ⟨hk, _⟩⟩ | ⟨hx, _⟩
  · exact h2.st
  · exact absurd (by cases hx; rfl) hk
  · exact absurd rfl hx
theorem sure_tick {d : CfgM} {k : Nat} {c : CliM} {tried refused seq : Int} (h : OnceSt d 0 k c 0 tried refused seq) (hch : c.ch = chA) (hb : ¬ c.doing = 0) {t : Int} (ht : 0 ≤ t ∧ t ≤ 1099511627776) {r : CliM × List SndM} (hr : tickC c t = r) :
    OnceSt d 0 (k + 1) r.1 0 tried refused seq ∧ RejF r.1 tried refused ∧ r.1.ch = chA ∧ (r.2 = [] ∨ r.2 = [askS]) := by
  have h1 := once_tick h ht
  have h2 := tick_same c t
  have h3 := tick_sent c t
  rw [hr] at h1 h2 h3
  exact ⟨h1.st, h1.rejF (h.open hb).2.1, h2.2.2.trans hch, h3⟩
theorem sure_cfg {d : CfgM} {k : Nat} {c : CliM} {tried refused seq : Int} (h : OnceSt d 0 k c 0 tried refused seq) (hk : k ≤ 1000000) (hb : ¬ c.doing = 0) {t : Int} (ht : 0 ≤ t ∧ t ≤ 1099511627776) {r : CliM × List SndM} (hr : takeC c (frCfg chA) t = r) :
    ∃ tr, (tr = tried ∨ tr = tried + 1) ∧ OnceSt d 0 (k + 1) r.1 0 tr refused seq ∧ RejF r.1 tr refused ∧ r.1.ch = chA := by
  have hch : r.1.ch = chA := by
    have hc := h.ch
    have hok : okCh chA = true := ch1_ok (by decide) (by decide)
    rw [← hr, takeC_cfg _ hok, if_neg (by show ¬ (1 : Int) < c.ch.epoch; omega)]
    split <;> rfl
  rcases once_cfg h hk (e' := 0) (by decide) (a := 0) (by decide) ht hr with ⟨_, h1⟩ | ⟨_, _, h1, _⟩
  · exact ⟨tried, .inl rfl, h1.st, h1.rejF (h.open hb).2.1, hch⟩
  · exact ⟨tried + 1, .inr rfl, h1.st, h1.rejF (h.open hb).2.1, hch⟩
theorem sure_ref {d : CfgM} {k : Nat} {c : CliM} {tried refused seq : Int} (h : OnceSt d 0 k c 0 tried refused seq) (hk : k ≤ 1000000) (hch : c.ch = chA) (hb : ¬ c.doing = 0) {rs rf : Int} (hrf : refused ≤ rf ∧ rf ≤ tried) (hup : rs = 6 ∨ rs = 5 ∨ rs = 7 ∨ (tried ≤ refused + 1 → tried ≤ rf)) {t : Int} (ht : 0 ≤ t ∧ t ≤ 1099511627776) {r : CliM × List SndM} (hr : takeC c (frRef 0 seq tried rs) t = r) :
    OnceSt d 0 (k + 1) r.1 0 tried rf seq ∧ RejF r.1 tried rf ∧ r.1.ch = chA := by
  have h1 := once_ref h hk tried rs hrf (fun _ _ h1 h2 => by
    rcases hup with h3 | h3 | h3 | h3
    · exact absurd (.inl h3) h1
    · exact absurd (.inr (.inl h3)) h1
    · exact absurd (.inr (.inr h3)) h1
    · exact h3 h2) ht
  have h2 : (takeC c (frRef 0 seq tried rs) t).1.ch = chA := by
    unfold takeC
    rw [if_neg (show ¬ (3 : Int) = 8 by decide), if_neg (show ¬ (3 : Int) = 2 by decide), if_pos rfl]
    split
    · exact (ref_same c _ t).2.2.trans hch
    · exact hch
  rw [hr] at h1 h2
  exact ⟨h1.st, h1.rejF (h.open hb).2.1, h2⟩
theorem sure_rep {d : CfgM} {k : Nat} {c : CliM} {tried refused seq : Int} (h : OnceSt d 0 k c 0 tried refused seq) (hk : k ≤ 1000000) (hch : c.ch = chA) (hb : ¬ c.doing = 0) (i : Int) {t : Int} (ht : 0 ≤ t ∧ t ≤ 1099511627776) {r : CliM × List SndM} (hr : takeC c (frRep 0 seq ⟨1, [], 0, i⟩) t = r) :
    OnceSt d 0 (k + 1) r.1 0 tried refused seq ∧ RejF r.1 tried refused ∧ r.1.ch = chA ∧ outcC r.1 = (⟨1, 0, 1, [], 0, i⟩, true) := by
  have h1 := once_rep h hk 0 seq ⟨1, [], 0, i⟩ ht
  have e : takeC c (frRep 0 seq ⟨1, [], 0, i⟩) t = (endC c ⟨1, 0, 1, [], 0, i⟩, []) := by
    have h2 := h.st.id
    have h3 := h.hsq
    unfold takeC
    rw [if_neg (show ¬ (2 : Int) = 8 by decide), if_pos rfl, if_pos ⟨hb, h2.symm, h3.symm⟩]
  rw [hr] at h1
  refine ⟨h1.st, h1.rejF (h.open hb).2.1, ?_, ?_⟩
  · rw [← hr, e]; exact hch
  · rw [← hr, e]; rfl
end Go.Proofs.Ytghfigeepnbjaaa
