/-
  A call that hands back two slices of its own, in something. The chapter's log and shot. The chapter's log and shot: the walk. No condition.
-/
import Derived.Test.YtfkbodonidkpoaaQ2
import Derived.Test.YtfkbodonidkpoaaSh6
import Derived.Test.YtfkbodonidkpoaaShOf
import Derived.Test.YtfkbodonidkpoaaPR
namespace Go.Proofs.Ytfkbodonidkpoaa
section
variable {P : Program} {w0 : World} {U : Nat → Prop}
theorem own_loc {w w' : World} {ty : TypeId} {sz n : Nat} {v : Value} {xs : List Value} (N : Nat) (h : w'.ownsRow w.heap.size ty sz v n xs) : ∃ ad : Option Addr, ∀ ρ'' : Loc, ρ'' N = ad → (SV.os N n).den ρ'' = v ∧ ∀ b, ad = some b → w.heap.size ≤ b.block ∧ v.ownBlock = some b.block := by
  obtain ⟨_, ⟨rfl, rfl⟩ | ⟨gb, cap, cur, rfl, hb, _⟩⟩ := h
  · exact ⟨none, fun ρ'' hρ => ⟨by simp [SV.den, atB', capB, hρ], fun b hb => by cases hb⟩⟩
  · exact ⟨some ⟨gb, 0, some cap⟩, fun ρ'' hρ => ⟨by simp [SV.den, atB', capB, hρ], fun b hb' => by cases hb'; exact ⟨hb, rfl⟩⟩⟩
theorem own_base {w' : World} {base : Nat} {ty : TypeId} {sz n : Nat} {v : Value} {xs : List Value} (h : w'.ownsRow base ty sz v n xs) : w'.ownsRow 0 ty sz v n xs := by
  obtain ⟨h0, h⟩ := h
  refine ⟨h0, ?_⟩
  rcases h with h | ⟨gb, cap, cur, h1, _, h3⟩
  · exact .inl h
  · exact .inr ⟨gb, cap, cur, h1, Nat.zero_le _, h3⟩
theorem call_own2 {f : FuncId} {args : List SV} {H : List HE} {K : SV → List HE → Prop} (ty : TypeId) (sz n : Nat) (g : Nat → Nat → Value) (ty2 : TypeId) (sz2 n2 : Nat) (g2 : Nat → Nat → Value) (sv : Nat → SV) (V : Value → Value → Value) (hV : ∀ N ρ' v v2, (SV.os N n).den ρ' = v → (SV.os (N + 1) n2).den ρ' = v2 → (sv N).den ρ' = V v v2)
    (hc : ∀ ρ w, HRel w0 U ρ H w → Calls P f (SV.denL ρ args).toArray w fun e w' => ∃ v v2, e = .returned (V v v2) ∧ w'.ownsRow w.heap.size ty sz v n (cellsF sz g n) ∧ w'.ownsRow w.heap.size ty2 sz2 v2 n2 (cellsF sz2 g2 n2) ∧ (∀ b, v.ownBlock = some b → v2.ownBlock ≠ some b) ∧ w.grownBy w' none)
    (hK : lenK H fun N => appK H (.own ty sz n g) fun H' => appK H' (.own ty2 sz2 n2 g2) fun H'' => K (sv N) H'') : CallN P w0 U f args H K :=
  ⟨fun ρ w hr => (hc ρ w hr).mono fun e w' ⟨v, v2, he, hown, hown2, hdis, hg⟩ => by
    have hK := appK_spec _ _ _ (appK_spec _ _ _ (lenK_spec hK))
    obtain ⟨ad, had⟩ := own_loc H.length hown
    obtain ⟨ad2, had2⟩ := own_loc (H.length + 1) hown2
    let ρ' : Loc := fun k => if k = H.length then ad else if k = H.length + 1 then ad2 else ρ k
    have hs : Same H.length ρ ρ' := fun i hi => by simp [ρ', Nat.ne_of_lt hi, show i ≠ H.length + 1 by omega]
    have key : ∀ ρ'', Same (H ++ [HE.own ty sz n g] ++ [HE.own ty2 sz2 n2 g2]).length ρ' ρ'' → Same H.length ρ ρ'' ∧ ρ'' H.length = ad ∧ ρ'' (H.length + 1) = ad2 := fun ρ'' h'' =>
      ⟨hs.trans (h''.mono (n := H.length) (by simp)) (Nat.le_refl _), by rw [h'' H.length (by simp)]; simp [ρ'], by rw [h'' (H.length + 1) (by simp)]; simp [ρ']⟩
    refine ⟨sv H.length, _, ρ', fun ρ'' h'' => by rw [he, hV _ ρ'' v v2 (had ρ'' (key ρ'' h'').2.1).1 (had2 ρ'' (key ρ'' h'').2.2).1], fun ρ'' h'' => ?_, hs, by simp, hK⟩
    obtain ⟨k1, k2, k3⟩ := key ρ'' h''
    have hok := hr ρ'' k1
    obtain ⟨hv, hb⟩ := had ρ'' k2
    obtain ⟨hv2, hb2⟩ := had2 ρ'' k3
    have ok1 : HOk w0 U ρ'' (H ++ [HE.own ty sz n g]) w' := by
      refine addH (keepH hok hg (fun _ _ _ _ _ _ => by simp) (fun k hk => by cases hk)) ?_ (fun b hb' => ?_) (fun i d hi hl b1 hb1 hf => ?_)
      · show w'.ownsRow 0 ty sz ((SV.os H.length n).den ρ'') n _
        rw [hv]
        exact own_base hown
      · rw [k2] at hb'
        exact .inl (Nat.le_trans hok.fr.size (hb b hb').1)
      · rw [k2] at hb1
        exact absurd (live_lt hok hi hl hf) (Nat.not_lt.2 (hb b1 hb1).1)
    have hl1 : (H ++ [HE.own ty sz n g]).length = H.length + 1 := by simp
    refine addH ok1 ?_ (fun b hb' => ?_) (fun i d hi hl b1 hb1 hf => ?_)
    · rw [hl1]
      show w'.ownsRow 0 ty2 sz2 ((SV.os (H.length + 1) n2).den ρ'') n2 _
      rw [hv2]
      exact own_base hown2
    · rw [hl1, k3] at hb'
      exact .inl (Nat.le_trans hok.fr.size (hb2 b hb').1)
    · rw [hl1, k3] at hb1
      rw [List.getElem?_append] at hi
      split at hi
      · exact absurd (live_lt hok hi hl hf) (Nat.not_lt.2 (hb2 b1 hb1).1)
      · rename_i hge
        obtain ⟨j, rfl⟩ : ∃ j, i = H.length + j := ⟨i - H.length, by omega⟩
        rw [Nat.add_sub_cancel_left] at hi
        rcases j with _ | j
        · simp at hi
          subst hi
          obtain ⟨a, ha, hab⟩ := hf
          rw [Nat.add_zero, k2] at ha
          exact hdis _ (hb a ha).2 (by rw [hab]; exact (hb2 b1 hb1).2)
        · simp at hi⟩
end
end Go.Proofs.Ytfkbodonidkpoaa
namespace Go.Proofs.Ytfkbodonidkpoaa
open Go.RowKit
theorem shApply_n {w0 : World} {U : Nat → Prop} {H : List HE} {K : SV → List HE → Prop} (s : ShM) (x : EntM) (p q : SV) (hp : ∀ ρ w, HRel w0 U ρ H w → CelSl w (p.den ρ) s) (hq : ∀ ρ w, HRel w0 U ρ H w → LasSl w (q.den ρ) s) (hs : SmallS s) (t : ShM) (r : ResM) (er : Int) (ht : applyS s x = (t, r, er))
    (hK : lenK H fun N => appK H (.own 104 3 t.cells.length (celF t.cells)) fun H' => appK H' (.own 97 6 t.lasts.length (laF t.lasts)) fun H'' => K (.tup [shS t (.os N t.cells.length) (.os (N + 1) t.lasts.length), resS r, .v (.int .i64 er)]) H'') :
    CallN Try.prog w0 U 25 [shS s p q, entS x] H K :=
  call_own2 _ _ _ _ _ _ _ _ (fun N => .tup [shS t (.os N t.cells.length) (.os (N + 1) t.lasts.length), resS r, .v (.int .i64 er)]) (fun v v2 => .tuple #[shV t v v2, resV r, .int .i64 er]) (fun N ρ' v v2 h1 h2 => by subst h1 h2; rfl) (fun ρ w hr => by
    refine (shApply_any s x (p.den ρ) (q.den ρ) w (hp ρ w hr) (hq ρ w hr) hs).mono ?_
    rintro e w' ⟨v1, v2, he, h1, h2, h3, h4⟩
    rw [ht] at he h1 h2
    exact ⟨v1, v2, he, h1, h2, h3, h4⟩) hK
def e1 : EntM := ⟨1, 0, 3, ⟨2, [107], [118], 0⟩⟩
def e2 : EntM := ⟨2, 1, 1, ⟨3, [107], [], 0⟩⟩
def l1 : LogM := logPut logZ e1
def s1 : ShM := ⟨1, [([107], [118], 1)], [⟨0, 3, ⟨1, [], 1, 1⟩⟩]⟩
def s2 : ShM := ⟨2, [], [⟨0, 3, ⟨1, [], 1, 1⟩⟩, ⟨1, 1, ⟨1, [], 0, 2⟩⟩]⟩
end Go.Proofs.Ytfkbodonidkpoaa
namespace Go.Proofs.Ytfkbodonidkpoaa
open Go.RowKit
end Go.Proofs.Ytfkbodonidkpoaa
