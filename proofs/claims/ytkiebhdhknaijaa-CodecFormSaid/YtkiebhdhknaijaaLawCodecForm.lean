/-
  CodecForm: what is told has just the bytes that stood there: true for every input. No condition.
-/
import Derived.Test.YtkiebhdhknaijaaRows
import Derived.Test.YtkiebhdhknaijaaRead
import Derived.Test.YtkiebhdhknaijaaCodecCoded
import Derived.Test.YtkiebhdhknaijaaCodecLaws
namespace Go.Proofs.Ytkiebhdhknaijaa.lawCodecForm
open Go.RowKit

theorem toS (s : ByteArray) : ∃ l : List UInt8, s = ⟨l.toArray⟩ ∧ l.length = s.size := ⟨s.data.toList, rfl, rfl⟩

theorem cat_eq {a b l : List UInt8} (h : a ++ b = l) : (ByteArray.mk a.toArray ++ ByteArray.mk b.toArray).toList = l := by rw [ByteArray.mk_append_mk, ByteArray.toList_mk, h]
theorem intB_len (n : Int) : (intB n).length ≤ 9 := by
  unfold intB
  split
  · simp
  · exact (numL_len _ (by omega)).2
theorem textB_len (g : List UInt8) (h : g.length ≤ 1000) : (textB g).length ≤ 1009 := by
  have := (numL_len g.length (by omega)).2
  simp [textB]; omega

set_option maxRecDepth 100000 in
set_option maxHeartbeats 1000000 in
theorem great (l : List UInt8) (w : World) (hl : 1000 < l.length) :
    Calls Try.prog 9 #[S l] w fun e w' => e = .returned (.bool true) ∧ Below w.heap.size w w' := by
  have hlen : decide ((1000 : Int) < (l.length : Int)) = true := by simp; omega
  go_enter Try.func9, Try.ntmps9
  go_wp2_with fail
  refine (coded_any w).mono ?_
  rintro e w1 ⟨rfl, h1⟩
  go_wp2
  go_ret
  exact ⟨rfl, h1⟩

set_option maxRecDepth 100000 in
set_option maxHeartbeats 4000000 in
theorem play (l : List UInt8) (w : World) (hl : l.length ≤ 1000) :
    Calls Try.prog 9 #[S l] w fun e w' => e = .returned (.bool true) ∧ Below w.heap.size w w' := by
  have hlen : decide ((1000 : Int) < (l.length : Int)) = false := by simp; omega
  have k1 := Lib.hid (fun w => read_any l w (by omega))
  have k3 := Lib.hid (fun w => unint_any l w (by omega))
  have k5 := Lib.hid (fun w => cut_any l w (by omega))
  rcases hd : readB l with _ | ⟨n, r⟩
  · have hu : unintB l = none := by rw [unintB, hd]
    have hc : cutB l = none := by rw [cutB, hd]
    rw [hd] at k1
    rw [hu] at k3
    rw [hc] at k5
    clear hd hu hc
    go_enter Try.func9, Try.ntmps9
    go_wp2_with fail
    refine (k1.out w).mono ?_
    rintro e w1 ⟨rfl, h1⟩
    have b1 := below_of_only h1
    simp only [rdV]
    go_wp2_with fail
    refine (k3.out w1).mono ?_
    rintro e w2 ⟨rfl, h2⟩
    have b2 := below_grown0 b1 b1.size h2
    simp only [utV]
    go_wp2_with fail
    refine (k5.out w2).mono ?_
    rintro e w3 ⟨rfl, h3⟩
    have b3 := below_grown0 b2 b2.size h3
    simp only [ctV]
    go_wp2_with fail
    refine (coded_any w3).mono ?_
    rintro e w9 ⟨rfl, h9⟩
    go_wp2
    go_ret
    exact ⟨rfl, b3.trans (h9.mono b3.size)⟩
  · have hn := readB_lt hd
    have hf := readB_form hd
    have hlen2 := readB_len hd
    rw [hd] at k1
    clear hd
    have hnl := (numL_len n hn).2
    have hcn := cat_eq hf
    clear hf
    have hrl : r.length ≤ 1000 := by omega
    rcases hu : unintB l with _ | ⟨d, q⟩
    · rcases hc : cutB l with _ | ⟨g, h⟩
      · rw [hu] at k3
        rw [hc] at k5
        clear hu hc
        go_enter Try.func9, Try.ntmps9
        go_wp2_with fail
        refine (k1.out w).mono ?_
        rintro e w1 ⟨rfl, h1⟩
        have b1 := below_of_only h1
        simp only [rdV]
        go_wp2_with fail
        refine (k3.out w1).mono ?_
        rintro e w2 ⟨rfl, h2⟩
        have b2 := below_grown0 b1 b1.size h2
        simp only [utV]
        go_wp2_with fail
        refine (k5.out w2).mono ?_
        rintro e w3 ⟨rfl, h3⟩
        have b3 := below_grown0 b2 b2.size h3
        simp only [ctV]
        go_wp2_with fail
        refine (num_any n w3 hn).mono ?_
        rintro e w4 ⟨rfl, h4⟩
        have b4 := below_grown0 b3 b3.size h4
        go_wp2_with fail
        refine (coded_any w4).mono ?_
        rintro e w9 ⟨rfl, h9⟩
        go_wp2
        go_ret
        exact ⟨rfl, b4.trans (h9.mono b4.size)⟩
      · have hfc := cutB_form hc
        have hcl := textB_len g (by have := congrArg List.length hfc; simp [textB] at this; omega)
        have hcc := cat_eq hfc
        have hgl : g.length ≤ 1000 := by have := congrArg List.length hfc; simp [textB] at this; omega
        have hhl : h.length ≤ 1000 := by have := congrArg List.length hfc; simp [textB] at this; omega
        clear hfc
        rw [hu] at k3
        rw [hc] at k5
        clear hu hc
        go_enter Try.func9, Try.ntmps9
        go_wp2_with fail
        refine (k1.out w).mono ?_
        rintro e w1 ⟨rfl, h1⟩
        have b1 := below_of_only h1
        simp only [rdV]
        go_wp2_with fail
        refine (k3.out w1).mono ?_
        rintro e w2 ⟨rfl, h2⟩
        have b2 := below_grown0 b1 b1.size h2
        simp only [utV]
        go_wp2_with fail
        refine (k5.out w2).mono ?_
        rintro e w3 ⟨rfl, h3⟩
        have b3 := below_grown0 b2 b2.size h3
        simp only [ctV]
        go_wp2_with fail
        refine (num_any n w3 hn).mono ?_
        rintro e w4 ⟨rfl, h4⟩
        have b4 := below_grown0 b3 b3.size h4
        go_wp2_with fail
        refine (text_any g w4 (by omega)).mono ?_
        rintro e w5 ⟨rfl, h5⟩
        have b5 := below_grown0 b4 b4.size h5
        go_wp2_with fail
        refine (coded_any w5).mono ?_
        rintro e w9 ⟨rfl, h9⟩
        go_wp2
        go_ret
        exact ⟨rfl, b5.trans (h9.mono b5.size)⟩
    · rcases hc : cutB l with _ | ⟨g, h⟩
      · have hfu := unintB_form hu
        have hul := intB_len d
        have hcu := cat_eq hfu.1
        have hd1 := hfu.2.1
        have hql : q.length ≤ 1000 := by have := congrArg List.length hfu.1; simp at this; omega
        clear hfu
        rw [hu] at k3
        rw [hc] at k5
        clear hu hc
        go_enter Try.func9, Try.ntmps9
        go_wp2_with fail
        refine (k1.out w).mono ?_
        rintro e w1 ⟨rfl, h1⟩
        have b1 := below_of_only h1
        simp only [rdV]
        go_wp2_with fail
        refine (k3.out w1).mono ?_
        rintro e w2 ⟨rfl, h2⟩
        have b2 := below_grown0 b1 b1.size h2
        simp only [utV]
        go_wp2_with fail
        refine (k5.out w2).mono ?_
        rintro e w3 ⟨rfl, h3⟩
        have b3 := below_grown0 b2 b2.size h3
        simp only [ctV]
        go_wp2_with fail
        refine (num_any n w3 hn).mono ?_
        rintro e w4 ⟨rfl, h4⟩
        have b4 := below_grown0 b3 b3.size h4
        go_wp2_with fail
        refine (int_any d w4).mono ?_
        rintro e w5 ⟨rfl, h5⟩
        have b5 := below_grown0 b4 b4.size h5
        go_wp2_with fail
        refine (coded_any w5).mono ?_
        rintro e w9 ⟨rfl, h9⟩
        go_wp2
        go_ret
        exact ⟨rfl, b5.trans (h9.mono b5.size)⟩
      · have hfu := unintB_form hu
        have hul := intB_len d
        have hcu := cat_eq hfu.1
        have hd1 := hfu.2.1
        have hfc := cutB_form hc
        have hcl := textB_len g (by have := congrArg List.length hfc; simp [textB] at this; omega)
        have hcc := cat_eq hfc
        have hgl : g.length ≤ 1000 := by have := congrArg List.length hfc; simp [textB] at this; omega
        have hhl : h.length ≤ 1000 := by have := congrArg List.length hfc; simp [textB] at this; omega
        have hql : q.length ≤ 1000 := by have := congrArg List.length hfu.1; simp at this; omega
        clear hfu
        clear hfc
        rw [hu] at k3
        rw [hc] at k5
        clear hu hc
        go_enter Try.func9, Try.ntmps9
        go_wp2_with fail
        refine (k1.out w).mono ?_
        rintro e w1 ⟨rfl, h1⟩
        have b1 := below_of_only h1
        simp only [rdV]
        go_wp2_with fail
        refine (k3.out w1).mono ?_
        rintro e w2 ⟨rfl, h2⟩
        have b2 := below_grown0 b1 b1.size h2
        simp only [utV]
        go_wp2_with fail
        refine (k5.out w2).mono ?_
        rintro e w3 ⟨rfl, h3⟩
        have b3 := below_grown0 b2 b2.size h3
        simp only [ctV]
        go_wp2_with fail
        refine (num_any n w3 hn).mono ?_
        rintro e w4 ⟨rfl, h4⟩
        have b4 := below_grown0 b3 b3.size h4
        go_wp2_with fail
        refine (int_any d w4).mono ?_
        rintro e w5 ⟨rfl, h5⟩
        have b5 := below_grown0 b4 b4.size h5
        go_wp2_with fail
        refine (text_any g w5 (by omega)).mono ?_
        rintro e w6 ⟨rfl, h6⟩
        have b6 := below_grown0 b5 b5.size h6
        go_wp2_with fail
        refine (coded_any w6).mono ?_
        rintro e w9 ⟨rfl, h9⟩
        go_wp2
        go_ret
        exact ⟨rfl, b6.trans (h9.mono b6.size)⟩

theorem walk (w : World) (s : ByteArray) (_ : s.size ≤ maxLen) :
    Calls Try.prog 9 #[.string s] w fun e w' => e = .returned (.bool true) ∧ Below w.heap.size w w' := by
  obtain ⟨l, rfl, _⟩ := toS s
  by_cases h : 1000 < l.length
  · exact great l w h
  · exact play l w (by omega)
end Go.Proofs.Ytkiebhdhknaijaa.lawCodecForm
