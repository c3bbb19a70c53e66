/-
  The document's master beside the program's: each operation of both. No condition.
-/
import Derived.Test.YtghfigeepnbjaaaRMW
import Derived.Test.YtghfigeepnbjaaaRM6
import Derived.Test.YtghfigeepnbjaaaRxW
import Derived.Test.YtghfigeepnbjaaaMasF
namespace Go.Proofs.Ytghfigeepnbjaaa
open Go.RowKit
/-- What is sent is of chains that are not great. -/
def smallL (l : List SndM) : Prop := ∀ r, r < l.length → (l.getD r sndZ).fr.ch.mem.length ≤ 1000000
theorem small_nil : smallL [] := fun r hr => absurd hr (Nat.not_lt_zero r)
theorem small_all {c : ChM} (h : okCh c = true) (n : Nat) : smallL (allN c n) := fun r hr => by
  rw [allN_len] at hr
  rw [allN_at _ _ _ hr]
  have := okCh_len h
  show c.mem.length ≤ 1000000
  omega
theorem small_cfg {c : ChM} (h : okCh c = true) (f : Int) : smallL [cfgM c f] := fun r hr => by
  obtain rfl : r = 0 := by simpa using hr
  have := okCh_len h
  show c.mem.length ≤ 1000000
  omega
theorem small_sure (f ep ix : Int) : smallL [sureM f ep ix] := fun r hr => by
  obtain rfl : r = 0 := by simpa using hr
  exact Nat.zero_le _
theorem small_join {m : MasM} (hm : m.ok) (n now : Int) : smallL (joinMM m n now).l := by
  unfold joinMM
  split
  · exact small_nil
  · split
    · rename_i h1 h2
      exact small_all (join_keeps hm now h2).ch _
    · exact small_nil
theorem small_tick {m : MasM} (hm : m.ok) (now : Int) : smallL (tickM m now).l := by
  unfold tickM
  split
  · exact small_all (tick_ok hm now _ _).ch _
  · exact small_nil
theorem small_take {m : MasM} (hm : m.ok) (f k ep ix now : Int) : smallL (takeM m f k ep ix now).l := by
  unfold takeM
  split
  · exact small_cfg hm.ch f
  split
  · exact small_nil
  split
  · split
    · exact small_cfg hm.ch f
    · split <;> exact small_nil
  split
  · split
    · exact small_cfg hm.ch f
    · split
      · exact small_sure f ep ix
      · exact small_nil
  split
  · rename_i h
    exact small_all (without_keeps hm h.2.2.2.2).ch _
  · exact small_nil
/-- An operation of both. -/
structure BothO (d : CfgM) (B : Int) (K : Nat) (m : MasM) (x : RLoc) (r : RMasM) (F G : FuncId) (args : List SV) (mk : Int → SV → SV) (o : Out) (r1 : RMasM) : Prop where
  t : Spec Try.prog F (.p 0 0 :: args) (masH m) (outR o (mk o.er))
  u : Spec Try.prog G (.p 0 0 :: args) (rmasH x r) (rOutR r1 o.l (mk o.er))
  agr : Agr o.m r1
  len : r1.knows.length ≤ K + 1
  st : MasSt d (B + 12) o.m
  sm : smallL o.l
/-- What is known of both. -/
structure TwoOk (d : CfgM) (B : Int) (K : Nat) (m : MasM) (x : RLoc) (r : RMasM) : Prop where
  st : MasSt d B m
  agr : Agr m r
  len : r.knows.length ≤ K
  x : x.ok r
theorem TwoOk.rok {d : CfgM} {B : Int} {K : Nat} {m : MasM} {x : RLoc} {r : RMasM} (h : TwoOk d B K m x r) (hK : K ≤ 1000) : r.ok := h.agr.rok h.st.ok (Nat.le_trans h.len hK)
section
variable {d : CfgM} {B : Int} {K : Nat} {m : MasM} {x : RLoc} {r : RMasM} (h : TwoOk d B K m x r) (hK : K ≤ 1000)
include h hK
theorem both_join (n now : Int) : ∃ o r1, BothO d B K m x r 20 29 [.v (.int .i64 n), .v (.int .i64 now)] (fun er q => .tup [q, .v (.int .i64 er)]) o r1 := by
  have hm := h.st.ok
  have a := agr_join h.agr hm h.len n now
  have u := rmJoin x r (h.rok hK) h.x n now (joinD r n now).1 (joinD r n now).2.1 (joinD r n now).2.2 rfl
  rw [a.1.l, a.2] at u
  exact ⟨joinMM m n now, (joinD r n now).1, masJoin m hm n now, u, a.1.agr, a.1.len, (join_st h.st n now).mono (by omega), small_join hm n now⟩
theorem both_tick (now : Int) : ∃ o r1, BothO d B K m x r 22 32 [.v (.int .i64 now)] (fun _ q => q) o r1 := by
  have hm := h.st.ok
  have a := agr_tick h.agr hm h.len now
  have u := rmTick x r (h.rok hK) h.x now (tickD r now).1 (tickD r now).2 rfl
  rw [a.l] at u
  exact ⟨tickM m now, (tickD r now).1, masTick m hm now, u, a.agr, a.len, (tick_st h.st now).mono (by omega), small_tick hm now⟩
theorem both_take (f now : Int) (fr : FrM) (qa : Option Addr) (qn qc : Nat) : ∃ o r1, BothO d B K m x r 18 34 [.v (.int .i64 f), frS fr (.v (.slice qa qn qc)), .v (.int .i64 now)] (fun _ q => q) o r1 := by
  have hm := h.st.ok
  have a := agr_take h.agr hm h.len f fr.kind fr.epoch fr.index now
  have u := rmTake x r (h.rok hK) h.x f now fr qa qn qc
  rw [a.l] at u
  exact ⟨takeM m f fr.kind fr.epoch fr.index now, (takeD r f fr.kind fr.epoch fr.index now).1, masTake m hm f now fr qa qn qc, u, a.agr, a.len, (take_st h.st f fr.kind fr.epoch fr.index now).mono (by omega), small_take hm f fr.kind fr.epoch fr.index now⟩
end
end Go.Proofs.Ytghfigeepnbjaaa
