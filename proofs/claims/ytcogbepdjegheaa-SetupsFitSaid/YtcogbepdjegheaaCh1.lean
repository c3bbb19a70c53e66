/-
  Chains: where a node is. No condition.
-/
import Derived.Test.YtcogbepdjegheaaChainM
import Derived.Test.YtcogbepdjegheaaRxK
namespace Go.Proofs.Ytcogbepdjegheaa

def atM (ms : List (Int × Int)) (n : Int) : Int := match ms.findIdx? (fun m => m.1 == n) with
  | some i => i
  | none => -1
theorem atM_some {ms : List (Int × Int)} {n : Int} {k : Nat} (hk : k < ms.length) (h : (ms.getD k (0, 0)).1 = n) (hs : ∀ j, j < k → ¬ (ms.getD j (0, 0)).1 = n) : atM ms n = k := by
  have : ms.findIdx? (fun m => m.1 == n) = some k := by
    rw [List.findIdx?_eq_some_iff_getElem]
    refine ⟨hk, by simpa [List.getD, hk] using h, fun j hj => ?_⟩
    have := hs j hj
    have hjl : j < ms.length := by omega
    simpa [List.getD, hjl] using this
  simp [atM, this]
theorem atM_none {ms : List (Int × Int)} {n : Int} (hs : ∀ j, j < ms.length → ¬ (ms.getD j (0, 0)).1 = n) : atM ms n = -1 := by
  have : ms.findIdx? (fun m => m.1 == n) = none := by
    rw [List.findIdx?_eq_none_iff]
    intro x hx
    obtain ⟨j, hj, rfl⟩ := List.getElem_of_mem hx
    have := hs j hj
    simpa [List.getD, hj] using this
  simp [atM, this]
set_option maxRecDepth 100000 in
set_option maxHeartbeats 1000000 in
theorem place1_any (b : Nat) (ep dr : Int) (q : Value) (ms : List (Int × Int)) (n : Int) (w : World) (hb : Blk w b 32 #[.int .i64 ep, q, .int .i64 dr]) (hq : SliceV w q 2 ms.length (memF ms))
    (hap : ∀ a k c, q = .slice (some a) k c → 0 < k → a.block ≠ b) (hl : ms.length ≤ 1000000) :
    Calls Try.prog 82 #[.int .i64 n, .pointer (some ⟨b, 0, none⟩)] w fun e w' => e = .returned (.int .i64 (atM ms n)) ∧ w.grownBy w' none := by
  obtain ⟨a, cap, rfl, h1, h2, hr⟩ := hq
  have hrel := relRB (ty := 32) (cs := [.v (.int .i64 ep), .rs 0 ms.length cap, .v (.int .i64 dr)]) hr hb (fun ρ h => by simp [SV.denL, SV.den, h]) (fun x hx hn => hap x _ _ (by rw [hx]) hn)
  refine (x_callsK (K := fun s H' => s = .v (.int .i64 (atM ms n)) ∧ H'[1]? = some (.blk 32 [.v (.int .i64 ep), .rs 0 ms.length cap, .v (.int .i64 dr)])) tabOK 2 Try.func82 rfl [.v (.int .i64 n), .p 1 0] _ (by simp) _ rfl rfl hrel ?_).mono ?_
  · repeat' ((conv => whnf); first
      | refine Need.go rfl ?_
      | refine QuiD.quiet (by kernel_rfl) ?_
      | refine draw_go tabOK (by kernel_rfl) ?_
      | refine Need.go ⟨rfl, rfl⟩ ?_
      | refine Need.go ⟨⟨rfl, rfl, rfl⟩, rfl⟩ ?_
      | with_reducible refine Br.dec (fun h => ?_) (fun h => ?_)
      | with_reducible refine Br.eqI (fun h => ?_) (fun h => ?_)
      | with_reducible refine Br.neI (fun h => ?_) (fun h => ?_)
      | with_reducible refine Br.eqS (fun h => ?_) (fun h => ?_)
      | with_reducible refine Br.neS (fun h => ?_) (fun h => ?_)
      | with_reducible refine Br.nd (fun h => ?_) (fun h => ?_)
      | refine Ar.i64 (by omega) (by omega) ?_
      | refine Need.go (by first | omega | decide | (simp <;> omega) | fail) ?_
      | refine Need.go (by first | (simp [Value.oneCell'] <;> omega) | fail) ?_
      | refine Need.go ⟨rfl, by omega, getD_one rfl rfl⟩ ?_
      | refine Need.go ⟨rfl, by omega, fun _ _ _ _ => rfl⟩ ?_
      | refine Br.both (fun h => ?_) (fun h => ?_))
    (conv => whnf)
    refine loop_up 10 (fun k : Nat => k ≤ ms.length ∧ ∀ j, j < k → ¬ (ms.getD j (0, 0)).1 = n) (fun k => ms.length - k) (fun k => [(4, .junk), (5, .junk), (9, .v (.int .i64 k))]) (fun _ => []) (fun _ => []) 0 ⟨Nat.zero_le _, fun j h => absurd h (by omega)⟩ (by
      (conv => whnf)
      refine ⟨[some 0, some 1], by decide, ?_, ?_⟩
      all_goals repeat' (first | exact trivial | exact .inl ⟨rfl, rfl⟩ | rfl | exact .inr ⟨_, rfl, rfl, rfl⟩ | exact ⟨_, rfl, trivial⟩ | exact ⟨_, rfl, rfl⟩ | exact ⟨_, rfl, ⟨rfl, rfl, rfl⟩, fun _ _ _ _ => rfl⟩ | exact ⟨_, rfl, ⟨rfl, rfl, .inl rfl⟩, rfl⟩ | exact ⟨_, rfl, ⟨rfl, rfl, .inr rfl⟩, rfl⟩ | exact ⟨_, rfl, ⟨rfl, rfl, rfl, rfl, rfl⟩, rfl⟩ | refine ⟨_, rfl, rfl, ?_⟩ | refine ⟨_, rfl, ⟨rfl, rfl, rfl⟩, ?_⟩ | refine And.intro ?_ ?_)) (fun k hk => ?_)
    obtain ⟨hk, hs⟩ := hk
    repeat' ((conv => whnf); first
        | refine Need.go rfl ?_
        | refine QuiD.quiet (by kernel_rfl) ?_
        | refine draw_go tabOK (by kernel_rfl) ?_
        | refine Need.go ⟨rfl, rfl⟩ ?_
        | refine Need.go ⟨⟨rfl, rfl, rfl⟩, rfl⟩ ?_
        | with_reducible refine Br.dec (fun h => ?_) (fun h => ?_)
        | with_reducible refine Br.eqI (fun h => ?_) (fun h => ?_)
        | with_reducible refine Br.neI (fun h => ?_) (fun h => ?_)
        | with_reducible refine Br.eqS (fun h => ?_) (fun h => ?_)
        | with_reducible refine Br.neS (fun h => ?_) (fun h => ?_)
        | with_reducible refine Br.nd (fun h => ?_) (fun h => ?_)
        | refine Ar.i64 (by omega) (by omega) ?_
        | refine Need.go (by first | omega | decide | (simp <;> omega) | fail) ?_
        | refine Need.go (by first | (simp [Value.oneCell'] <;> omega) | fail) ?_
        | refine Need.go ⟨rfl, by omega, getD_one rfl rfl⟩ ?_
        | refine Need.go ⟨rfl, by omega, fun _ _ _ _ => rfl⟩ ?_
        | refine Br.both (fun h => ?_) (fun h => ?_))
    all_goals (conv => whnf)
    · have h : (ms.getD k (0, 0)).1 = n := h
      exact ⟨by rw [atM_some (by omega) h hs], rfl⟩
    · have h : ¬ (ms.getD k (0, 0)).1 = n := h
      refine ⟨k + 1, ⟨by omega, fun j hj => ?_⟩, by omega, ?_⟩
      · rcases Nat.lt_or_ge j k with e | e
        · exact hs j e
        · rw [show j = k by omega]; exact h
      · (conv => whnf)
        refine ⟨[some 0, some 1], by decide, ?_, ?_⟩
        all_goals repeat' (first | exact trivial | exact .inl ⟨rfl, rfl⟩ | rfl | exact .inr ⟨_, rfl, rfl, rfl⟩ | exact ⟨_, rfl, trivial⟩ | exact ⟨_, rfl, rfl⟩ | exact ⟨_, rfl, ⟨rfl, rfl, rfl⟩, fun _ _ _ _ => rfl⟩ | exact ⟨_, rfl, ⟨rfl, rfl, .inl rfl⟩, rfl⟩ | exact ⟨_, rfl, ⟨rfl, rfl, .inr rfl⟩, rfl⟩ | exact ⟨_, rfl, ⟨rfl, rfl, rfl, rfl, rfl⟩, rfl⟩ | refine ⟨_, rfl, rfl, ?_⟩ | refine ⟨_, rfl, ⟨rfl, rfl, rfl⟩, ?_⟩ | refine And.intro ?_ ?_)
    · exact ⟨by rw [atM_none (fun j hj => hs j (by omega))], rfl⟩
  · rintro e w' ⟨s, H', ρ', v, rfl, ⟨rfl, hH⟩, hr', hs, hm, hv⟩
    refine ⟨by rw [hv ρ' (Same.refl _ _)]; rfl, ?_⟩
    have h1 : ρ' 1 = some ⟨b, 0, none⟩ := hs 1 (by omega)
    have h0 : ρ' 0 = a := hs 0 (by omega)
    obtain ⟨b', h3, h4⟩ := hr'.at.ent 1 _ hH
    rw [h1] at h3
    cases h3
    refine fr_back hr'.at.fr hb ?_
    simpa [SV.denL, SV.den, h0] using h4
end Go.Proofs.Ytcogbepdjegheaa
