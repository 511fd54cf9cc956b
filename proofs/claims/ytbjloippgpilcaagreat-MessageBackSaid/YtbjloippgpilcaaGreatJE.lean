/-
  Messages read of bytes: the program's read. Own work (an AI agent).
-/
import Derived.Test.YtbjloippgpilcaaGreatJD

section
set_option linter.all false
set_option maxRecDepth 100000
namespace Go.Proofs.YtbjloippgpilcaaGreat
open Go.Ab

set_option maxHeartbeats 4000000 in
theorem mread_c {o : Nat} {x : Rd} {σ : Store} (ho : σ.heap o = some (rdO x)) : ACalls Tryz.prog 46 [.ref o 0] σ fun v σ' => v = sMsg (rdMsg x).1 ∧ σ'.heap o = some (rdO (rdMsg x).2) ∧ SubX [o] σ σ' := by
  obtain ⟨z, hz⟩ : ∃ z, AObj.cells [.lit (.int .i64 0), .lit (.string ⟨#[]⟩), .lit (.string ⟨#[]⟩), .lit (.int .i64 0), .lit (.int .i64 0), .lit (.string ⟨#[]⟩), .lit (.slice none 0 0), .lit (.slice none 0 0), .lit (.slice none 0 0), .lit (.slice none 0 0), .lit (.slice none 0 0), .lit (.slice none 0 0)] = z := ⟨_, rfl⟩
  obtain ⟨a, ha⟩ : ∃ q, rdNum x 1 = q := ⟨_, rfl⟩
  obtain ⟨b, hb⟩ : ∃ q, rdText a.2 = q := ⟨_, rfl⟩
  obtain ⟨c, hc⟩ : ∃ q, rdText b.2 = q := ⟨_, rfl⟩
  obtain ⟨d, hd⟩ : ∃ q, rdNum c.2 8 = q := ⟨_, rfl⟩
  obtain ⟨e, he⟩ : ∃ q, rdNum d.2 1 = q := ⟨_, rfl⟩
  obtain ⟨f, hf⟩ : ∃ q, rdText e.2 = q := ⟨_, rfl⟩
  obtain ⟨g, hg⟩ : ∃ q, rdObj f.2 = q := ⟨_, rfl⟩
  obtain ⟨h, hh⟩ : ∃ q, rdSev rdTx g.2 = q := ⟨_, rfl⟩
  obtain ⟨i, hi⟩ : ∃ q, rdRow rdLeaf h.2 = q := ⟨_, rfl⟩
  obtain ⟨j, hj⟩ : ∃ q, rdRow rdItem i.2 = q := ⟨_, rfl⟩
  obtain ⟨k, hk⟩ : ∃ q, rdSev rdEnt j.2 = q := ⟨_, rfl⟩
  rw [rdMsg_eq ha hb hc hd he hf hg hh hi hj hk]
  refine ACalls_of Tryz.func46 rfl Tryz.ntmps46 (congrArg Array.toList Tryz.results46) (by simp only [List.length_cons, List.length_nil]; decide) ?_; simp only [envOf_cons, envOf_nil, Nat.reduceAdd]
  refine awp_seq ?_
  refine awp_region (by kernel_rfl) ?_
  refine aL_box rfl rfl rfl v_ rfl g_ fun o1 ho1 => ?_
  repeat (rw [none_set_iff] at ho1; obtain ⟨_, ho1⟩ := ho1)
  refine aL_alloc rfl rfl rfl g_ gl_ fun o2 ho2 => ?_
  repeat (rw [none_set_iff] at ho2; obtain ⟨_, ho2⟩ := ho2)
  refine aL_nil ?_
  have n1 := ne_of_heap ho ho1
  have n2 := ne_of_heap ho ho2
  refine awp_seq ?_
  refine awp_region (by kernel_rfl) ?_
  refine aL_alloc rfl rfl rfl g_ gl_ fun o3 ho3 => ?_
  repeat (rw [none_set_iff] at ho3; obtain ⟨_, ho3⟩ := ho3)
  refine aL_nil ?_
  have n3 := ne_of_heap ho ho3
  refine awp_seq_mid (ι := Store) (fun υ => υ.heap o = some (rdO c.2) ∧ υ.heap o1 = some (.cells [.ref o 0]) ∧ υ.heap o2 = some z ∧ υ.heap o3 = some (.cells [vInt a.1, vStr (B b.1), vStr (B c.1), .lit (.int .i64 0), .lit (.int .i64 0), .lit (.string ⟨#[]⟩), .lit (.slice none 0 0), .lit (.slice none 0 0), .lit (.slice none 0 0), .lit (.slice none 0 0), .lit (.slice none 0 0), .lit (.slice none 0 0)]) ∧ SubX [o] σ υ) (fun υ => [(1, .ref o1 0), (2, .ref o2 0), (3, .ref o3 0)]) (fun υ => υ) ?_ ?_
  · refine awp_draw (.alt 0 2 (.alt 1 2 (.op 6 0 (.alt 2 2 (.alt 3 2 (.op 4 2 (.op 5 2 (.op 7 2 (.op 8 0 (.op 9 2 (.op 10 0 (.op 11 2 .nil))))))) (.op 4 2 (.op 3 2 (.op 5 2 (.op 7 2 (.op 8 0 (.op 9 2 (.op 10 0 (.op 11 2 .nil))))))))) (.op 4 2 (.op 2 2 (.op 3 2 (.op 5 2 (.op 7 2 (.op 8 0 (.op 9 2 (.op 10 0 (.op 11 2 .nil))))))))))) (.alt 2 2 (.alt 1 2 (.op 6 0 (.alt 3 2 (.op 4 2 (.op 5 2 (.op 7 2 (.op 8 0 (.op 9 2 (.op 10 0 (.op 11 2 .nil))))))) (.op 4 2 (.op 3 2 (.op 5 2 (.op 7 2 (.op 8 0 (.op 9 2 (.op 10 0 (.op 11 2 .nil)))))))))) (.op 4 2 (.op 1 2 (.op 6 0 (.op 3 2 (.op 5 2 (.op 7 2 (.op 8 0 (.op 9 2 (.op 10 0 (.op 11 2 .nil))))))))))) (.op 4 2 (.alt 1 2 (.op 6 0 (.op 2 2 (.op 3 2 (.op 5 2 (.op 7 2 (.op 8 0 (.op 9 2 (.op 10 0 (.op 11 2 .nil))))))))) (.op 2 2 (.op 1 2 (.op 6 0 (.op 3 2 (.op 5 2 (.op 7 2 (.op 8 0 (.op 9 2 (.op 10 0 (.op 11 2 .nil)))))))))))))) (.alt 2 2 (.alt 0 2 (.alt 1 2 (.op 6 0 (.alt 3 2 (.op 4 2 (.op 5 2 (.op 7 2 (.op 8 0 (.op 9 2 (.op 10 0 (.op 11 2 .nil))))))) (.op 4 2 (.op 3 2 (.op 5 2 (.op 7 2 (.op 8 0 (.op 9 2 (.op 10 0 (.op 11 2 .nil)))))))))) (.op 4 2 (.op 1 2 (.op 6 0 (.op 3 2 (.op 5 2 (.op 7 2 (.op 8 0 (.op 9 2 (.op 10 0 (.op 11 2 .nil))))))))))) (.op 4 2 (.op 0 2 (.op 1 2 (.op 6 0 (.op 3 2 (.op 5 2 (.op 7 2 (.op 8 0 (.op 9 2 (.op 10 0 (.op 11 2 .nil)))))))))))) (.op 4 2 (.alt 0 2 (.alt 1 2 (.op 6 0 (.op 2 2 (.op 3 2 (.op 5 2 (.op 7 2 (.op 8 0 (.op 9 2 (.op 10 0 (.op 11 2 .nil))))))))) (.op 2 2 (.op 1 2 (.op 6 0 (.op 3 2 (.op 5 2 (.op 7 2 (.op 8 0 (.op 9 2 (.op 10 0 (.op 11 2 .nil))))))))))) (.op 2 2 (.op 0 2 (.op 1 2 (.op 6 0 (.op 3 2 (.op 5 2 (.op 7 2 (.op 8 0 (.op 9 2 (.op 10 0 (.op 11 2 .nil))))))))))))))) Tryz.mixed (by kernel_rfl) ?_
    refine dR_alt ?_ ?_
    · refine dR_T o_ (by rfl) (by rfl) (AOp_val v_ ?_)
      refine dR_alt ?_ ?_
      · refine dR_T o_ (by rfl) (by rfl) (AOp_use (by rfl) (by rfl) (.inr ⟨by rfl, by rfl, by rfl⟩) g_ va_ (rdByte_q ha (by simp (disch := omega) only [Store.set_ne, ho])) ?_); rintro _ _ ⟨rfl, rfl⟩
        (refine dR_S o_ (by rfl) (by rfl) v_ ?_)
        refine dR_alt ?_ ?_
        · refine dR_T o_ (by rfl) (by rfl) (AOp_val v_ ?_)
          refine dR_alt ?_ ?_
          · refine dR_T o_ (by rfl) (by rfl) (AOp_use (by rfl) (by rfl) (.inr ⟨by rfl, by rfl, by rfl⟩) g_ va_ (rdText_q hb (Store.set_get ..)) ?_); rintro _ _ ⟨rfl, rfl⟩
            refine dR_T o_ (by rfl) (by rfl) (AOp_val v_ ?_)
            refine dR_T o_ (by rfl) (by rfl) (AOp_use (by rfl) (by rfl) (.inr ⟨by rfl, by rfl, by rfl⟩) g_ va_ (rdText_q hc (Store.set_get ..)) ?_); rintro _ _ ⟨rfl, rfl⟩
            refine dR_store o_ (by rfl) (by rfl) (by rfl) v_ v_ h_ g_ rfl g_ c_ (by rfl) le_ v_ ?_
            (refine dR_S o_ (by rfl) (by rfl) v_ ?_)
            refine dR_store o_ (by rfl) (by rfl) (by rfl) v_ v_ h_ g_ rfl g_ c_ (by rfl) le_ v_ ?_
            (refine dR_S o_ (by rfl) (by rfl) v_ ?_)
            refine dR_store o_ (by rfl) (by rfl) (by rfl) v_ v_ h_ g_ rfl g_ c_ (by rfl) le_ v_ ?_
            refine dR_nil ?_
            refine ⟨(((((((((σ.set o1 (.cells [.ref o 0])).set o2 (.cells [.lit (.int .i64 0), .lit (.string ⟨#[]⟩), .lit (.string ⟨#[]⟩), .lit (.int .i64 0), .lit (.int .i64 0), .lit (.string ⟨#[]⟩), .lit (.slice none 0 0), .lit (.slice none 0 0), .lit (.slice none 0 0), .lit (.slice none 0 0), .lit (.slice none 0 0), .lit (.slice none 0 0)])).set o3 (.cells [.lit (.int .i64 0), .lit (.string ⟨#[]⟩), .lit (.string ⟨#[]⟩), .lit (.int .i64 0), .lit (.int .i64 0), .lit (.string ⟨#[]⟩), .lit (.slice none 0 0), .lit (.slice none 0 0), .lit (.slice none 0 0), .lit (.slice none 0 0), .lit (.slice none 0 0), .lit (.slice none 0 0)])).set o (rdO a.2)).set o (rdO b.2)).set o (rdO c.2)).set o3 (.cells [vInt a.1, .lit (.string ⟨#[]⟩), .lit (.string ⟨#[]⟩), .lit (.int .i64 0), .lit (.int .i64 0), .lit (.string ⟨#[]⟩), .lit (.slice none 0 0), .lit (.slice none 0 0), .lit (.slice none 0 0), .lit (.slice none 0 0), .lit (.slice none 0 0), .lit (.slice none 0 0)])).set o3 (.cells [vInt a.1, vStr (B b.1), .lit (.string ⟨#[]⟩), .lit (.int .i64 0), .lit (.int .i64 0), .lit (.string ⟨#[]⟩), .lit (.slice none 0 0), .lit (.slice none 0 0), .lit (.slice none 0 0), .lit (.slice none 0 0), .lit (.slice none 0 0), .lit (.slice none 0 0)])).set o3 (.cells [vInt a.1, vStr (B b.1), vStr (B c.1), .lit (.int .i64 0), .lit (.int .i64 0), .lit (.string ⟨#[]⟩), .lit (.slice none 0 0), .lit (.slice none 0 0), .lit (.slice none 0 0), .lit (.slice none 0 0), .lit (.slice none 0 0), .lit (.slice none 0 0)])), ?_, ?_, ?_⟩
            · rw [← hz]; exact ⟨h_, h_, h_, h_, sub_⟩
            · exact cv_
            · exact Store.Wk.refl _
          refine dR_T o_ (by rfl) (by rfl) (AOp_val v_ ?_)
          refine dR_T o_ (by rfl) (by rfl) (AOp_use (by rfl) (by rfl) (.inr ⟨by rfl, by rfl, by rfl⟩) g_ va_ (rdText_q hb (Store.set_get ..)) ?_); rintro _ _ ⟨rfl, rfl⟩
          refine dR_T o_ (by rfl) (by rfl) (AOp_use (by rfl) (by rfl) (.inr ⟨by rfl, by rfl, by rfl⟩) g_ va_ (rdText_q hc (Store.set_get ..)) ?_); rintro _ _ ⟨rfl, rfl⟩
          refine dR_store o_ (by rfl) (by rfl) (by rfl) v_ v_ h_ g_ rfl g_ c_ (by rfl) le_ v_ ?_
          (refine dR_S o_ (by rfl) (by rfl) v_ ?_)
          refine dR_store o_ (by rfl) (by rfl) (by rfl) v_ v_ h_ g_ rfl g_ c_ (by rfl) le_ v_ ?_
          (refine dR_S o_ (by rfl) (by rfl) v_ ?_)
          refine dR_store o_ (by rfl) (by rfl) (by rfl) v_ v_ h_ g_ rfl g_ c_ (by rfl) le_ v_ ?_
          refine dR_nil ?_
          refine ⟨(((((((((σ.set o1 (.cells [.ref o 0])).set o2 (.cells [.lit (.int .i64 0), .lit (.string ⟨#[]⟩), .lit (.string ⟨#[]⟩), .lit (.int .i64 0), .lit (.int .i64 0), .lit (.string ⟨#[]⟩), .lit (.slice none 0 0), .lit (.slice none 0 0), .lit (.slice none 0 0), .lit (.slice none 0 0), .lit (.slice none 0 0), .lit (.slice none 0 0)])).set o3 (.cells [.lit (.int .i64 0), .lit (.string ⟨#[]⟩), .lit (.string ⟨#[]⟩), .lit (.int .i64 0), .lit (.int .i64 0), .lit (.string ⟨#[]⟩), .lit (.slice none 0 0), .lit (.slice none 0 0), .lit (.slice none 0 0), .lit (.slice none 0 0), .lit (.slice none 0 0), .lit (.slice none 0 0)])).set o (rdO a.2)).set o (rdO b.2)).set o (rdO c.2)).set o3 (.cells [vInt a.1, .lit (.string ⟨#[]⟩), .lit (.string ⟨#[]⟩), .lit (.int .i64 0), .lit (.int .i64 0), .lit (.string ⟨#[]⟩), .lit (.slice none 0 0), .lit (.slice none 0 0), .lit (.slice none 0 0), .lit (.slice none 0 0), .lit (.slice none 0 0), .lit (.slice none 0 0)])).set o3 (.cells [vInt a.1, vStr (B b.1), .lit (.string ⟨#[]⟩), .lit (.int .i64 0), .lit (.int .i64 0), .lit (.string ⟨#[]⟩), .lit (.slice none 0 0), .lit (.slice none 0 0), .lit (.slice none 0 0), .lit (.slice none 0 0), .lit (.slice none 0 0), .lit (.slice none 0 0)])).set o3 (.cells [vInt a.1, vStr (B b.1), vStr (B c.1), .lit (.int .i64 0), .lit (.int .i64 0), .lit (.string ⟨#[]⟩), .lit (.slice none 0 0), .lit (.slice none 0 0), .lit (.slice none 0 0), .lit (.slice none 0 0), .lit (.slice none 0 0), .lit (.slice none 0 0)])), ?_, ?_, ?_⟩
          · rw [← hz]; exact ⟨h_, h_, h_, h_, sub_⟩
          · exact cv_
          · exact Store.Wk.refl _
        refine dR_T o_ (by rfl) (by rfl) (AOp_val v_ ?_)
        refine dR_T o_ (by rfl) (by rfl) (AOp_val v_ ?_)
        refine dR_T o_ (by rfl) (by rfl) (AOp_use (by rfl) (by rfl) (.inr ⟨by rfl, by rfl, by rfl⟩) g_ va_ (rdText_q hb (Store.set_get ..)) ?_); rintro _ _ ⟨rfl, rfl⟩
        refine dR_T o_ (by rfl) (by rfl) (AOp_use (by rfl) (by rfl) (.inr ⟨by rfl, by rfl, by rfl⟩) g_ va_ (rdText_q hc (Store.set_get ..)) ?_); rintro _ _ ⟨rfl, rfl⟩
        refine dR_store o_ (by rfl) (by rfl) (by rfl) v_ v_ h_ g_ rfl g_ c_ (by rfl) le_ v_ ?_
        (refine dR_S o_ (by rfl) (by rfl) v_ ?_)
        refine dR_store o_ (by rfl) (by rfl) (by rfl) v_ v_ h_ g_ rfl g_ c_ (by rfl) le_ v_ ?_
        (refine dR_S o_ (by rfl) (by rfl) v_ ?_)
        refine dR_store o_ (by rfl) (by rfl) (by rfl) v_ v_ h_ g_ rfl g_ c_ (by rfl) le_ v_ ?_
        refine dR_nil ?_
        refine ⟨(((((((((σ.set o1 (.cells [.ref o 0])).set o2 (.cells [.lit (.int .i64 0), .lit (.string ⟨#[]⟩), .lit (.string ⟨#[]⟩), .lit (.int .i64 0), .lit (.int .i64 0), .lit (.string ⟨#[]⟩), .lit (.slice none 0 0), .lit (.slice none 0 0), .lit (.slice none 0 0), .lit (.slice none 0 0), .lit (.slice none 0 0), .lit (.slice none 0 0)])).set o3 (.cells [.lit (.int .i64 0), .lit (.string ⟨#[]⟩), .lit (.string ⟨#[]⟩), .lit (.int .i64 0), .lit (.int .i64 0), .lit (.string ⟨#[]⟩), .lit (.slice none 0 0), .lit (.slice none 0 0), .lit (.slice none 0 0), .lit (.slice none 0 0), .lit (.slice none 0 0), .lit (.slice none 0 0)])).set o (rdO a.2)).set o (rdO b.2)).set o (rdO c.2)).set o3 (.cells [vInt a.1, .lit (.string ⟨#[]⟩), .lit (.string ⟨#[]⟩), .lit (.int .i64 0), .lit (.int .i64 0), .lit (.string ⟨#[]⟩), .lit (.slice none 0 0), .lit (.slice none 0 0), .lit (.slice none 0 0), .lit (.slice none 0 0), .lit (.slice none 0 0), .lit (.slice none 0 0)])).set o3 (.cells [vInt a.1, vStr (B b.1), .lit (.string ⟨#[]⟩), .lit (.int .i64 0), .lit (.int .i64 0), .lit (.string ⟨#[]⟩), .lit (.slice none 0 0), .lit (.slice none 0 0), .lit (.slice none 0 0), .lit (.slice none 0 0), .lit (.slice none 0 0), .lit (.slice none 0 0)])).set o3 (.cells [vInt a.1, vStr (B b.1), vStr (B c.1), .lit (.int .i64 0), .lit (.int .i64 0), .lit (.string ⟨#[]⟩), .lit (.slice none 0 0), .lit (.slice none 0 0), .lit (.slice none 0 0), .lit (.slice none 0 0), .lit (.slice none 0 0), .lit (.slice none 0 0)])), ?_, ?_, ?_⟩
        · rw [← hz]; exact ⟨h_, h_, h_, h_, sub_⟩
        · exact cv_
        · exact Store.Wk.refl _
      refine dR_alt ?_ ?_
      · refine dR_T o_ (by rfl) (by rfl) (AOp_val v_ ?_)
        refine dR_alt ?_ ?_
        · refine dR_T o_ (by rfl) (by rfl) (AOp_use (by rfl) (by rfl) (.inr ⟨by rfl, by rfl, by rfl⟩) g_ va_ (rdByte_q ha (by simp (disch := omega) only [Store.set_ne, ho])) ?_); rintro _ _ ⟨rfl, rfl⟩
          (refine dR_S o_ (by rfl) (by rfl) v_ ?_)
          refine dR_alt ?_ ?_
          · refine dR_T o_ (by rfl) (by rfl) (AOp_use (by rfl) (by rfl) (.inr ⟨by rfl, by rfl, by rfl⟩) g_ va_ (rdText_q hb (Store.set_get ..)) ?_); rintro _ _ ⟨rfl, rfl⟩
            refine dR_T o_ (by rfl) (by rfl) (AOp_val v_ ?_)
            refine dR_T o_ (by rfl) (by rfl) (AOp_use (by rfl) (by rfl) (.inr ⟨by rfl, by rfl, by rfl⟩) g_ va_ (rdText_q hc (Store.set_get ..)) ?_); rintro _ _ ⟨rfl, rfl⟩
            refine dR_store o_ (by rfl) (by rfl) (by rfl) v_ v_ h_ g_ rfl g_ c_ (by rfl) le_ v_ ?_
            (refine dR_S o_ (by rfl) (by rfl) v_ ?_)
            refine dR_store o_ (by rfl) (by rfl) (by rfl) v_ v_ h_ g_ rfl g_ c_ (by rfl) le_ v_ ?_
            (refine dR_S o_ (by rfl) (by rfl) v_ ?_)
            refine dR_store o_ (by rfl) (by rfl) (by rfl) v_ v_ h_ g_ rfl g_ c_ (by rfl) le_ v_ ?_
            refine dR_nil ?_
            refine ⟨(((((((((σ.set o1 (.cells [.ref o 0])).set o2 (.cells [.lit (.int .i64 0), .lit (.string ⟨#[]⟩), .lit (.string ⟨#[]⟩), .lit (.int .i64 0), .lit (.int .i64 0), .lit (.string ⟨#[]⟩), .lit (.slice none 0 0), .lit (.slice none 0 0), .lit (.slice none 0 0), .lit (.slice none 0 0), .lit (.slice none 0 0), .lit (.slice none 0 0)])).set o3 (.cells [.lit (.int .i64 0), .lit (.string ⟨#[]⟩), .lit (.string ⟨#[]⟩), .lit (.int .i64 0), .lit (.int .i64 0), .lit (.string ⟨#[]⟩), .lit (.slice none 0 0), .lit (.slice none 0 0), .lit (.slice none 0 0), .lit (.slice none 0 0), .lit (.slice none 0 0), .lit (.slice none 0 0)])).set o (rdO a.2)).set o (rdO b.2)).set o (rdO c.2)).set o3 (.cells [vInt a.1, .lit (.string ⟨#[]⟩), .lit (.string ⟨#[]⟩), .lit (.int .i64 0), .lit (.int .i64 0), .lit (.string ⟨#[]⟩), .lit (.slice none 0 0), .lit (.slice none 0 0), .lit (.slice none 0 0), .lit (.slice none 0 0), .lit (.slice none 0 0), .lit (.slice none 0 0)])).set o3 (.cells [vInt a.1, vStr (B b.1), .lit (.string ⟨#[]⟩), .lit (.int .i64 0), .lit (.int .i64 0), .lit (.string ⟨#[]⟩), .lit (.slice none 0 0), .lit (.slice none 0 0), .lit (.slice none 0 0), .lit (.slice none 0 0), .lit (.slice none 0 0), .lit (.slice none 0 0)])).set o3 (.cells [vInt a.1, vStr (B b.1), vStr (B c.1), .lit (.int .i64 0), .lit (.int .i64 0), .lit (.string ⟨#[]⟩), .lit (.slice none 0 0), .lit (.slice none 0 0), .lit (.slice none 0 0), .lit (.slice none 0 0), .lit (.slice none 0 0), .lit (.slice none 0 0)])), ?_, ?_, ?_⟩
            · rw [← hz]; exact ⟨h_, h_, h_, h_, sub_⟩
            · exact cv_
            · exact Store.Wk.refl _
          refine dR_T o_ (by rfl) (by rfl) (AOp_val v_ ?_)
          refine dR_T o_ (by rfl) (by rfl) (AOp_use (by rfl) (by rfl) (.inr ⟨by rfl, by rfl, by rfl⟩) g_ va_ (rdText_q hb (Store.set_get ..)) ?_); rintro _ _ ⟨rfl, rfl⟩
          refine dR_T o_ (by rfl) (by rfl) (AOp_use (by rfl) (by rfl) (.inr ⟨by rfl, by rfl, by rfl⟩) g_ va_ (rdText_q hc (Store.set_get ..)) ?_); rintro _ _ ⟨rfl, rfl⟩
          refine dR_store o_ (by rfl) (by rfl) (by rfl) v_ v_ h_ g_ rfl g_ c_ (by rfl) le_ v_ ?_
          (refine dR_S o_ (by rfl) (by rfl) v_ ?_)
          refine dR_store o_ (by rfl) (by rfl) (by rfl) v_ v_ h_ g_ rfl g_ c_ (by rfl) le_ v_ ?_
          (refine dR_S o_ (by rfl) (by rfl) v_ ?_)
          refine dR_store o_ (by rfl) (by rfl) (by rfl) v_ v_ h_ g_ rfl g_ c_ (by rfl) le_ v_ ?_
          refine dR_nil ?_
          refine ⟨(((((((((σ.set o1 (.cells [.ref o 0])).set o2 (.cells [.lit (.int .i64 0), .lit (.string ⟨#[]⟩), .lit (.string ⟨#[]⟩), .lit (.int .i64 0), .lit (.int .i64 0), .lit (.string ⟨#[]⟩), .lit (.slice none 0 0), .lit (.slice none 0 0), .lit (.slice none 0 0), .lit (.slice none 0 0), .lit (.slice none 0 0), .lit (.slice none 0 0)])).set o3 (.cells [.lit (.int .i64 0), .lit (.string ⟨#[]⟩), .lit (.string ⟨#[]⟩), .lit (.int .i64 0), .lit (.int .i64 0), .lit (.string ⟨#[]⟩), .lit (.slice none 0 0), .lit (.slice none 0 0), .lit (.slice none 0 0), .lit (.slice none 0 0), .lit (.slice none 0 0), .lit (.slice none 0 0)])).set o (rdO a.2)).set o (rdO b.2)).set o (rdO c.2)).set o3 (.cells [vInt a.1, .lit (.string ⟨#[]⟩), .lit (.string ⟨#[]⟩), .lit (.int .i64 0), .lit (.int .i64 0), .lit (.string ⟨#[]⟩), .lit (.slice none 0 0), .lit (.slice none 0 0), .lit (.slice none 0 0), .lit (.slice none 0 0), .lit (.slice none 0 0), .lit (.slice none 0 0)])).set o3 (.cells [vInt a.1, vStr (B b.1), .lit (.string ⟨#[]⟩), .lit (.int .i64 0), .lit (.int .i64 0), .lit (.string ⟨#[]⟩), .lit (.slice none 0 0), .lit (.slice none 0 0), .lit (.slice none 0 0), .lit (.slice none 0 0), .lit (.slice none 0 0), .lit (.slice none 0 0)])).set o3 (.cells [vInt a.1, vStr (B b.1), vStr (B c.1), .lit (.int .i64 0), .lit (.int .i64 0), .lit (.string ⟨#[]⟩), .lit (.slice none 0 0), .lit (.slice none 0 0), .lit (.slice none 0 0), .lit (.slice none 0 0), .lit (.slice none 0 0), .lit (.slice none 0 0)])), ?_, ?_, ?_⟩
          · rw [← hz]; exact ⟨h_, h_, h_, h_, sub_⟩
          · exact cv_
          · exact Store.Wk.refl _
        refine dR_T o_ (by rfl) (by rfl) (AOp_val v_ ?_)
        refine dR_T o_ (by rfl) (by rfl) (AOp_use (by rfl) (by rfl) (.inr ⟨by rfl, by rfl, by rfl⟩) g_ va_ (rdByte_q ha (by simp (disch := omega) only [Store.set_ne, ho])) ?_); rintro _ _ ⟨rfl, rfl⟩
        (refine dR_S o_ (by rfl) (by rfl) v_ ?_)
        refine dR_T o_ (by rfl) (by rfl) (AOp_use (by rfl) (by rfl) (.inr ⟨by rfl, by rfl, by rfl⟩) g_ va_ (rdText_q hb (Store.set_get ..)) ?_); rintro _ _ ⟨rfl, rfl⟩
        refine dR_T o_ (by rfl) (by rfl) (AOp_use (by rfl) (by rfl) (.inr ⟨by rfl, by rfl, by rfl⟩) g_ va_ (rdText_q hc (Store.set_get ..)) ?_); rintro _ _ ⟨rfl, rfl⟩
        refine dR_store o_ (by rfl) (by rfl) (by rfl) v_ v_ h_ g_ rfl g_ c_ (by rfl) le_ v_ ?_
        (refine dR_S o_ (by rfl) (by rfl) v_ ?_)
        refine dR_store o_ (by rfl) (by rfl) (by rfl) v_ v_ h_ g_ rfl g_ c_ (by rfl) le_ v_ ?_
        (refine dR_S o_ (by rfl) (by rfl) v_ ?_)
        refine dR_store o_ (by rfl) (by rfl) (by rfl) v_ v_ h_ g_ rfl g_ c_ (by rfl) le_ v_ ?_
        refine dR_nil ?_
        refine ⟨(((((((((σ.set o1 (.cells [.ref o 0])).set o2 (.cells [.lit (.int .i64 0), .lit (.string ⟨#[]⟩), .lit (.string ⟨#[]⟩), .lit (.int .i64 0), .lit (.int .i64 0), .lit (.string ⟨#[]⟩), .lit (.slice none 0 0), .lit (.slice none 0 0), .lit (.slice none 0 0), .lit (.slice none 0 0), .lit (.slice none 0 0), .lit (.slice none 0 0)])).set o3 (.cells [.lit (.int .i64 0), .lit (.string ⟨#[]⟩), .lit (.string ⟨#[]⟩), .lit (.int .i64 0), .lit (.int .i64 0), .lit (.string ⟨#[]⟩), .lit (.slice none 0 0), .lit (.slice none 0 0), .lit (.slice none 0 0), .lit (.slice none 0 0), .lit (.slice none 0 0), .lit (.slice none 0 0)])).set o (rdO a.2)).set o (rdO b.2)).set o (rdO c.2)).set o3 (.cells [vInt a.1, .lit (.string ⟨#[]⟩), .lit (.string ⟨#[]⟩), .lit (.int .i64 0), .lit (.int .i64 0), .lit (.string ⟨#[]⟩), .lit (.slice none 0 0), .lit (.slice none 0 0), .lit (.slice none 0 0), .lit (.slice none 0 0), .lit (.slice none 0 0), .lit (.slice none 0 0)])).set o3 (.cells [vInt a.1, vStr (B b.1), .lit (.string ⟨#[]⟩), .lit (.int .i64 0), .lit (.int .i64 0), .lit (.string ⟨#[]⟩), .lit (.slice none 0 0), .lit (.slice none 0 0), .lit (.slice none 0 0), .lit (.slice none 0 0), .lit (.slice none 0 0), .lit (.slice none 0 0)])).set o3 (.cells [vInt a.1, vStr (B b.1), vStr (B c.1), .lit (.int .i64 0), .lit (.int .i64 0), .lit (.string ⟨#[]⟩), .lit (.slice none 0 0), .lit (.slice none 0 0), .lit (.slice none 0 0), .lit (.slice none 0 0), .lit (.slice none 0 0), .lit (.slice none 0 0)])), ?_, ?_, ?_⟩
        · rw [← hz]; exact ⟨h_, h_, h_, h_, sub_⟩
        · exact cv_
        · exact Store.Wk.refl _
      refine dR_T o_ (by rfl) (by rfl) (AOp_val v_ ?_)
      refine dR_alt ?_ ?_
      · refine dR_T o_ (by rfl) (by rfl) (AOp_use (by rfl) (by rfl) (.inr ⟨by rfl, by rfl, by rfl⟩) g_ va_ (rdByte_q ha (by simp (disch := omega) only [Store.set_ne, ho])) ?_); rintro _ _ ⟨rfl, rfl⟩
        (refine dR_S o_ (by rfl) (by rfl) v_ ?_)
        refine dR_T o_ (by rfl) (by rfl) (AOp_val v_ ?_)
        refine dR_T o_ (by rfl) (by rfl) (AOp_use (by rfl) (by rfl) (.inr ⟨by rfl, by rfl, by rfl⟩) g_ va_ (rdText_q hb (Store.set_get ..)) ?_); rintro _ _ ⟨rfl, rfl⟩
        refine dR_T o_ (by rfl) (by rfl) (AOp_use (by rfl) (by rfl) (.inr ⟨by rfl, by rfl, by rfl⟩) g_ va_ (rdText_q hc (Store.set_get ..)) ?_); rintro _ _ ⟨rfl, rfl⟩
        refine dR_store o_ (by rfl) (by rfl) (by rfl) v_ v_ h_ g_ rfl g_ c_ (by rfl) le_ v_ ?_
        (refine dR_S o_ (by rfl) (by rfl) v_ ?_)
        refine dR_store o_ (by rfl) (by rfl) (by rfl) v_ v_ h_ g_ rfl g_ c_ (by rfl) le_ v_ ?_
        (refine dR_S o_ (by rfl) (by rfl) v_ ?_)
        refine dR_store o_ (by rfl) (by rfl) (by rfl) v_ v_ h_ g_ rfl g_ c_ (by rfl) le_ v_ ?_
        refine dR_nil ?_
        refine ⟨(((((((((σ.set o1 (.cells [.ref o 0])).set o2 (.cells [.lit (.int .i64 0), .lit (.string ⟨#[]⟩), .lit (.string ⟨#[]⟩), .lit (.int .i64 0), .lit (.int .i64 0), .lit (.string ⟨#[]⟩), .lit (.slice none 0 0), .lit (.slice none 0 0), .lit (.slice none 0 0), .lit (.slice none 0 0), .lit (.slice none 0 0), .lit (.slice none 0 0)])).set o3 (.cells [.lit (.int .i64 0), .lit (.string ⟨#[]⟩), .lit (.string ⟨#[]⟩), .lit (.int .i64 0), .lit (.int .i64 0), .lit (.string ⟨#[]⟩), .lit (.slice none 0 0), .lit (.slice none 0 0), .lit (.slice none 0 0), .lit (.slice none 0 0), .lit (.slice none 0 0), .lit (.slice none 0 0)])).set o (rdO a.2)).set o (rdO b.2)).set o (rdO c.2)).set o3 (.cells [vInt a.1, .lit (.string ⟨#[]⟩), .lit (.string ⟨#[]⟩), .lit (.int .i64 0), .lit (.int .i64 0), .lit (.string ⟨#[]⟩), .lit (.slice none 0 0), .lit (.slice none 0 0), .lit (.slice none 0 0), .lit (.slice none 0 0), .lit (.slice none 0 0), .lit (.slice none 0 0)])).set o3 (.cells [vInt a.1, vStr (B b.1), .lit (.string ⟨#[]⟩), .lit (.int .i64 0), .lit (.int .i64 0), .lit (.string ⟨#[]⟩), .lit (.slice none 0 0), .lit (.slice none 0 0), .lit (.slice none 0 0), .lit (.slice none 0 0), .lit (.slice none 0 0), .lit (.slice none 0 0)])).set o3 (.cells [vInt a.1, vStr (B b.1), vStr (B c.1), .lit (.int .i64 0), .lit (.int .i64 0), .lit (.string ⟨#[]⟩), .lit (.slice none 0 0), .lit (.slice none 0 0), .lit (.slice none 0 0), .lit (.slice none 0 0), .lit (.slice none 0 0), .lit (.slice none 0 0)])), ?_, ?_, ?_⟩
        · rw [← hz]; exact ⟨h_, h_, h_, h_, sub_⟩
        · exact cv_
        · exact Store.Wk.refl _
      refine dR_T o_ (by rfl) (by rfl) (AOp_val v_ ?_)
      refine dR_T o_ (by rfl) (by rfl) (AOp_use (by rfl) (by rfl) (.inr ⟨by rfl, by rfl, by rfl⟩) g_ va_ (rdByte_q ha (by simp (disch := omega) only [Store.set_ne, ho])) ?_); rintro _ _ ⟨rfl, rfl⟩
      (refine dR_S o_ (by rfl) (by rfl) v_ ?_)
      refine dR_T o_ (by rfl) (by rfl) (AOp_use (by rfl) (by rfl) (.inr ⟨by rfl, by rfl, by rfl⟩) g_ va_ (rdText_q hb (Store.set_get ..)) ?_); rintro _ _ ⟨rfl, rfl⟩
      refine dR_T o_ (by rfl) (by rfl) (AOp_use (by rfl) (by rfl) (.inr ⟨by rfl, by rfl, by rfl⟩) g_ va_ (rdText_q hc (Store.set_get ..)) ?_); rintro _ _ ⟨rfl, rfl⟩
      refine dR_store o_ (by rfl) (by rfl) (by rfl) v_ v_ h_ g_ rfl g_ c_ (by rfl) le_ v_ ?_
      (refine dR_S o_ (by rfl) (by rfl) v_ ?_)
      refine dR_store o_ (by rfl) (by rfl) (by rfl) v_ v_ h_ g_ rfl g_ c_ (by rfl) le_ v_ ?_
      (refine dR_S o_ (by rfl) (by rfl) v_ ?_)
      refine dR_store o_ (by rfl) (by rfl) (by rfl) v_ v_ h_ g_ rfl g_ c_ (by rfl) le_ v_ ?_
      refine dR_nil ?_
      refine ⟨(((((((((σ.set o1 (.cells [.ref o 0])).set o2 (.cells [.lit (.int .i64 0), .lit (.string ⟨#[]⟩), .lit (.string ⟨#[]⟩), .lit (.int .i64 0), .lit (.int .i64 0), .lit (.string ⟨#[]⟩), .lit (.slice none 0 0), .lit (.slice none 0 0), .lit (.slice none 0 0), .lit (.slice none 0 0), .lit (.slice none 0 0), .lit (.slice none 0 0)])).set o3 (.cells [.lit (.int .i64 0), .lit (.string ⟨#[]⟩), .lit (.string ⟨#[]⟩), .lit (.int .i64 0), .lit (.int .i64 0), .lit (.string ⟨#[]⟩), .lit (.slice none 0 0), .lit (.slice none 0 0), .lit (.slice none 0 0), .lit (.slice none 0 0), .lit (.slice none 0 0), .lit (.slice none 0 0)])).set o (rdO a.2)).set o (rdO b.2)).set o (rdO c.2)).set o3 (.cells [vInt a.1, .lit (.string ⟨#[]⟩), .lit (.string ⟨#[]⟩), .lit (.int .i64 0), .lit (.int .i64 0), .lit (.string ⟨#[]⟩), .lit (.slice none 0 0), .lit (.slice none 0 0), .lit (.slice none 0 0), .lit (.slice none 0 0), .lit (.slice none 0 0), .lit (.slice none 0 0)])).set o3 (.cells [vInt a.1, vStr (B b.1), .lit (.string ⟨#[]⟩), .lit (.int .i64 0), .lit (.int .i64 0), .lit (.string ⟨#[]⟩), .lit (.slice none 0 0), .lit (.slice none 0 0), .lit (.slice none 0 0), .lit (.slice none 0 0), .lit (.slice none 0 0), .lit (.slice none 0 0)])).set o3 (.cells [vInt a.1, vStr (B b.1), vStr (B c.1), .lit (.int .i64 0), .lit (.int .i64 0), .lit (.string ⟨#[]⟩), .lit (.slice none 0 0), .lit (.slice none 0 0), .lit (.slice none 0 0), .lit (.slice none 0 0), .lit (.slice none 0 0), .lit (.slice none 0 0)])), ?_, ?_, ?_⟩
      · rw [← hz]; exact ⟨h_, h_, h_, h_, sub_⟩
      · exact cv_
      · exact Store.Wk.refl _
    refine dR_alt ?_ ?_
    · refine dR_T o_ (by rfl) (by rfl) (AOp_val v_ ?_)
      refine dR_alt ?_ ?_
      · refine dR_T o_ (by rfl) (by rfl) (AOp_val v_ ?_)
        refine dR_alt ?_ ?_
        · refine dR_T o_ (by rfl) (by rfl) (AOp_use (by rfl) (by rfl) (.inr ⟨by rfl, by rfl, by rfl⟩) g_ va_ (rdByte_q ha (by simp (disch := omega) only [Store.set_ne, ho])) ?_); rintro _ _ ⟨rfl, rfl⟩
          (refine dR_S o_ (by rfl) (by rfl) v_ ?_)
          refine dR_alt ?_ ?_
          · refine dR_T o_ (by rfl) (by rfl) (AOp_use (by rfl) (by rfl) (.inr ⟨by rfl, by rfl, by rfl⟩) g_ va_ (rdText_q hb (Store.set_get ..)) ?_); rintro _ _ ⟨rfl, rfl⟩
            refine dR_T o_ (by rfl) (by rfl) (AOp_val v_ ?_)
            refine dR_T o_ (by rfl) (by rfl) (AOp_use (by rfl) (by rfl) (.inr ⟨by rfl, by rfl, by rfl⟩) g_ va_ (rdText_q hc (Store.set_get ..)) ?_); rintro _ _ ⟨rfl, rfl⟩
            refine dR_store o_ (by rfl) (by rfl) (by rfl) v_ v_ h_ g_ rfl g_ c_ (by rfl) le_ v_ ?_
            (refine dR_S o_ (by rfl) (by rfl) v_ ?_)
            refine dR_store o_ (by rfl) (by rfl) (by rfl) v_ v_ h_ g_ rfl g_ c_ (by rfl) le_ v_ ?_
            (refine dR_S o_ (by rfl) (by rfl) v_ ?_)
            refine dR_store o_ (by rfl) (by rfl) (by rfl) v_ v_ h_ g_ rfl g_ c_ (by rfl) le_ v_ ?_
            refine dR_nil ?_
            refine ⟨(((((((((σ.set o1 (.cells [.ref o 0])).set o2 (.cells [.lit (.int .i64 0), .lit (.string ⟨#[]⟩), .lit (.string ⟨#[]⟩), .lit (.int .i64 0), .lit (.int .i64 0), .lit (.string ⟨#[]⟩), .lit (.slice none 0 0), .lit (.slice none 0 0), .lit (.slice none 0 0), .lit (.slice none 0 0), .lit (.slice none 0 0), .lit (.slice none 0 0)])).set o3 (.cells [.lit (.int .i64 0), .lit (.string ⟨#[]⟩), .lit (.string ⟨#[]⟩), .lit (.int .i64 0), .lit (.int .i64 0), .lit (.string ⟨#[]⟩), .lit (.slice none 0 0), .lit (.slice none 0 0), .lit (.slice none 0 0), .lit (.slice none 0 0), .lit (.slice none 0 0), .lit (.slice none 0 0)])).set o (rdO a.2)).set o (rdO b.2)).set o (rdO c.2)).set o3 (.cells [vInt a.1, .lit (.string ⟨#[]⟩), .lit (.string ⟨#[]⟩), .lit (.int .i64 0), .lit (.int .i64 0), .lit (.string ⟨#[]⟩), .lit (.slice none 0 0), .lit (.slice none 0 0), .lit (.slice none 0 0), .lit (.slice none 0 0), .lit (.slice none 0 0), .lit (.slice none 0 0)])).set o3 (.cells [vInt a.1, vStr (B b.1), .lit (.string ⟨#[]⟩), .lit (.int .i64 0), .lit (.int .i64 0), .lit (.string ⟨#[]⟩), .lit (.slice none 0 0), .lit (.slice none 0 0), .lit (.slice none 0 0), .lit (.slice none 0 0), .lit (.slice none 0 0), .lit (.slice none 0 0)])).set o3 (.cells [vInt a.1, vStr (B b.1), vStr (B c.1), .lit (.int .i64 0), .lit (.int .i64 0), .lit (.string ⟨#[]⟩), .lit (.slice none 0 0), .lit (.slice none 0 0), .lit (.slice none 0 0), .lit (.slice none 0 0), .lit (.slice none 0 0), .lit (.slice none 0 0)])), ?_, ?_, ?_⟩
            · rw [← hz]; exact ⟨h_, h_, h_, h_, sub_⟩
            · exact cv_
            · exact Store.Wk.refl _
          refine dR_T o_ (by rfl) (by rfl) (AOp_val v_ ?_)
          refine dR_T o_ (by rfl) (by rfl) (AOp_use (by rfl) (by rfl) (.inr ⟨by rfl, by rfl, by rfl⟩) g_ va_ (rdText_q hb (Store.set_get ..)) ?_); rintro _ _ ⟨rfl, rfl⟩
          refine dR_T o_ (by rfl) (by rfl) (AOp_use (by rfl) (by rfl) (.inr ⟨by rfl, by rfl, by rfl⟩) g_ va_ (rdText_q hc (Store.set_get ..)) ?_); rintro _ _ ⟨rfl, rfl⟩
          refine dR_store o_ (by rfl) (by rfl) (by rfl) v_ v_ h_ g_ rfl g_ c_ (by rfl) le_ v_ ?_
          (refine dR_S o_ (by rfl) (by rfl) v_ ?_)
          refine dR_store o_ (by rfl) (by rfl) (by rfl) v_ v_ h_ g_ rfl g_ c_ (by rfl) le_ v_ ?_
          (refine dR_S o_ (by rfl) (by rfl) v_ ?_)
          refine dR_store o_ (by rfl) (by rfl) (by rfl) v_ v_ h_ g_ rfl g_ c_ (by rfl) le_ v_ ?_
          refine dR_nil ?_
          refine ⟨(((((((((σ.set o1 (.cells [.ref o 0])).set o2 (.cells [.lit (.int .i64 0), .lit (.string ⟨#[]⟩), .lit (.string ⟨#[]⟩), .lit (.int .i64 0), .lit (.int .i64 0), .lit (.string ⟨#[]⟩), .lit (.slice none 0 0), .lit (.slice none 0 0), .lit (.slice none 0 0), .lit (.slice none 0 0), .lit (.slice none 0 0), .lit (.slice none 0 0)])).set o3 (.cells [.lit (.int .i64 0), .lit (.string ⟨#[]⟩), .lit (.string ⟨#[]⟩), .lit (.int .i64 0), .lit (.int .i64 0), .lit (.string ⟨#[]⟩), .lit (.slice none 0 0), .lit (.slice none 0 0), .lit (.slice none 0 0), .lit (.slice none 0 0), .lit (.slice none 0 0), .lit (.slice none 0 0)])).set o (rdO a.2)).set o (rdO b.2)).set o (rdO c.2)).set o3 (.cells [vInt a.1, .lit (.string ⟨#[]⟩), .lit (.string ⟨#[]⟩), .lit (.int .i64 0), .lit (.int .i64 0), .lit (.string ⟨#[]⟩), .lit (.slice none 0 0), .lit (.slice none 0 0), .lit (.slice none 0 0), .lit (.slice none 0 0), .lit (.slice none 0 0), .lit (.slice none 0 0)])).set o3 (.cells [vInt a.1, vStr (B b.1), .lit (.string ⟨#[]⟩), .lit (.int .i64 0), .lit (.int .i64 0), .lit (.string ⟨#[]⟩), .lit (.slice none 0 0), .lit (.slice none 0 0), .lit (.slice none 0 0), .lit (.slice none 0 0), .lit (.slice none 0 0), .lit (.slice none 0 0)])).set o3 (.cells [vInt a.1, vStr (B b.1), vStr (B c.1), .lit (.int .i64 0), .lit (.int .i64 0), .lit (.string ⟨#[]⟩), .lit (.slice none 0 0), .lit (.slice none 0 0), .lit (.slice none 0 0), .lit (.slice none 0 0), .lit (.slice none 0 0), .lit (.slice none 0 0)])), ?_, ?_, ?_⟩
          · rw [← hz]; exact ⟨h_, h_, h_, h_, sub_⟩
          · exact cv_
          · exact Store.Wk.refl _
        refine dR_T o_ (by rfl) (by rfl) (AOp_val v_ ?_)
        refine dR_T o_ (by rfl) (by rfl) (AOp_use (by rfl) (by rfl) (.inr ⟨by rfl, by rfl, by rfl⟩) g_ va_ (rdByte_q ha (by simp (disch := omega) only [Store.set_ne, ho])) ?_); rintro _ _ ⟨rfl, rfl⟩
        (refine dR_S o_ (by rfl) (by rfl) v_ ?_)
        refine dR_T o_ (by rfl) (by rfl) (AOp_use (by rfl) (by rfl) (.inr ⟨by rfl, by rfl, by rfl⟩) g_ va_ (rdText_q hb (Store.set_get ..)) ?_); rintro _ _ ⟨rfl, rfl⟩
        refine dR_T o_ (by rfl) (by rfl) (AOp_use (by rfl) (by rfl) (.inr ⟨by rfl, by rfl, by rfl⟩) g_ va_ (rdText_q hc (Store.set_get ..)) ?_); rintro _ _ ⟨rfl, rfl⟩
        refine dR_store o_ (by rfl) (by rfl) (by rfl) v_ v_ h_ g_ rfl g_ c_ (by rfl) le_ v_ ?_
        (refine dR_S o_ (by rfl) (by rfl) v_ ?_)
        refine dR_store o_ (by rfl) (by rfl) (by rfl) v_ v_ h_ g_ rfl g_ c_ (by rfl) le_ v_ ?_
        (refine dR_S o_ (by rfl) (by rfl) v_ ?_)
        refine dR_store o_ (by rfl) (by rfl) (by rfl) v_ v_ h_ g_ rfl g_ c_ (by rfl) le_ v_ ?_
        refine dR_nil ?_
        refine ⟨(((((((((σ.set o1 (.cells [.ref o 0])).set o2 (.cells [.lit (.int .i64 0), .lit (.string ⟨#[]⟩), .lit (.string ⟨#[]⟩), .lit (.int .i64 0), .lit (.int .i64 0), .lit (.string ⟨#[]⟩), .lit (.slice none 0 0), .lit (.slice none 0 0), .lit (.slice none 0 0), .lit (.slice none 0 0), .lit (.slice none 0 0), .lit (.slice none 0 0)])).set o3 (.cells [.lit (.int .i64 0), .lit (.string ⟨#[]⟩), .lit (.string ⟨#[]⟩), .lit (.int .i64 0), .lit (.int .i64 0), .lit (.string ⟨#[]⟩), .lit (.slice none 0 0), .lit (.slice none 0 0), .lit (.slice none 0 0), .lit (.slice none 0 0), .lit (.slice none 0 0), .lit (.slice none 0 0)])).set o (rdO a.2)).set o (rdO b.2)).set o (rdO c.2)).set o3 (.cells [vInt a.1, .lit (.string ⟨#[]⟩), .lit (.string ⟨#[]⟩), .lit (.int .i64 0), .lit (.int .i64 0), .lit (.string ⟨#[]⟩), .lit (.slice none 0 0), .lit (.slice none 0 0), .lit (.slice none 0 0), .lit (.slice none 0 0), .lit (.slice none 0 0), .lit (.slice none 0 0)])).set o3 (.cells [vInt a.1, vStr (B b.1), .lit (.string ⟨#[]⟩), .lit (.int .i64 0), .lit (.int .i64 0), .lit (.string ⟨#[]⟩), .lit (.slice none 0 0), .lit (.slice none 0 0), .lit (.slice none 0 0), .lit (.slice none 0 0), .lit (.slice none 0 0), .lit (.slice none 0 0)])).set o3 (.cells [vInt a.1, vStr (B b.1), vStr (B c.1), .lit (.int .i64 0), .lit (.int .i64 0), .lit (.string ⟨#[]⟩), .lit (.slice none 0 0), .lit (.slice none 0 0), .lit (.slice none 0 0), .lit (.slice none 0 0), .lit (.slice none 0 0), .lit (.slice none 0 0)])), ?_, ?_, ?_⟩
        · rw [← hz]; exact ⟨h_, h_, h_, h_, sub_⟩
        · exact cv_
        · exact Store.Wk.refl _
      refine dR_T o_ (by rfl) (by rfl) (AOp_val v_ ?_)
      refine dR_T o_ (by rfl) (by rfl) (AOp_val v_ ?_)
      refine dR_T o_ (by rfl) (by rfl) (AOp_use (by rfl) (by rfl) (.inr ⟨by rfl, by rfl, by rfl⟩) g_ va_ (rdByte_q ha (by simp (disch := omega) only [Store.set_ne, ho])) ?_); rintro _ _ ⟨rfl, rfl⟩
      (refine dR_S o_ (by rfl) (by rfl) v_ ?_)
      refine dR_T o_ (by rfl) (by rfl) (AOp_use (by rfl) (by rfl) (.inr ⟨by rfl, by rfl, by rfl⟩) g_ va_ (rdText_q hb (Store.set_get ..)) ?_); rintro _ _ ⟨rfl, rfl⟩
      refine dR_T o_ (by rfl) (by rfl) (AOp_use (by rfl) (by rfl) (.inr ⟨by rfl, by rfl, by rfl⟩) g_ va_ (rdText_q hc (Store.set_get ..)) ?_); rintro _ _ ⟨rfl, rfl⟩
      refine dR_store o_ (by rfl) (by rfl) (by rfl) v_ v_ h_ g_ rfl g_ c_ (by rfl) le_ v_ ?_
      (refine dR_S o_ (by rfl) (by rfl) v_ ?_)
      refine dR_store o_ (by rfl) (by rfl) (by rfl) v_ v_ h_ g_ rfl g_ c_ (by rfl) le_ v_ ?_
      (refine dR_S o_ (by rfl) (by rfl) v_ ?_)
      refine dR_store o_ (by rfl) (by rfl) (by rfl) v_ v_ h_ g_ rfl g_ c_ (by rfl) le_ v_ ?_
      refine dR_nil ?_
      refine ⟨(((((((((σ.set o1 (.cells [.ref o 0])).set o2 (.cells [.lit (.int .i64 0), .lit (.string ⟨#[]⟩), .lit (.string ⟨#[]⟩), .lit (.int .i64 0), .lit (.int .i64 0), .lit (.string ⟨#[]⟩), .lit (.slice none 0 0), .lit (.slice none 0 0), .lit (.slice none 0 0), .lit (.slice none 0 0), .lit (.slice none 0 0), .lit (.slice none 0 0)])).set o3 (.cells [.lit (.int .i64 0), .lit (.string ⟨#[]⟩), .lit (.string ⟨#[]⟩), .lit (.int .i64 0), .lit (.int .i64 0), .lit (.string ⟨#[]⟩), .lit (.slice none 0 0), .lit (.slice none 0 0), .lit (.slice none 0 0), .lit (.slice none 0 0), .lit (.slice none 0 0), .lit (.slice none 0 0)])).set o (rdO a.2)).set o (rdO b.2)).set o (rdO c.2)).set o3 (.cells [vInt a.1, .lit (.string ⟨#[]⟩), .lit (.string ⟨#[]⟩), .lit (.int .i64 0), .lit (.int .i64 0), .lit (.string ⟨#[]⟩), .lit (.slice none 0 0), .lit (.slice none 0 0), .lit (.slice none 0 0), .lit (.slice none 0 0), .lit (.slice none 0 0), .lit (.slice none 0 0)])).set o3 (.cells [vInt a.1, vStr (B b.1), .lit (.string ⟨#[]⟩), .lit (.int .i64 0), .lit (.int .i64 0), .lit (.string ⟨#[]⟩), .lit (.slice none 0 0), .lit (.slice none 0 0), .lit (.slice none 0 0), .lit (.slice none 0 0), .lit (.slice none 0 0), .lit (.slice none 0 0)])).set o3 (.cells [vInt a.1, vStr (B b.1), vStr (B c.1), .lit (.int .i64 0), .lit (.int .i64 0), .lit (.string ⟨#[]⟩), .lit (.slice none 0 0), .lit (.slice none 0 0), .lit (.slice none 0 0), .lit (.slice none 0 0), .lit (.slice none 0 0), .lit (.slice none 0 0)])), ?_, ?_, ?_⟩
      · rw [← hz]; exact ⟨h_, h_, h_, h_, sub_⟩
      · exact cv_
      · exact Store.Wk.refl _
    refine dR_T o_ (by rfl) (by rfl) (AOp_val v_ ?_)
    refine dR_alt ?_ ?_
    · refine dR_T o_ (by rfl) (by rfl) (AOp_val v_ ?_)
      refine dR_alt ?_ ?_
      · refine dR_T o_ (by rfl) (by rfl) (AOp_use (by rfl) (by rfl) (.inr ⟨by rfl, by rfl, by rfl⟩) g_ va_ (rdByte_q ha (by simp (disch := omega) only [Store.set_ne, ho])) ?_); rintro _ _ ⟨rfl, rfl⟩
        (refine dR_S o_ (by rfl) (by rfl) v_ ?_)
        refine dR_T o_ (by rfl) (by rfl) (AOp_val v_ ?_)
        refine dR_T o_ (by rfl) (by rfl) (AOp_use (by rfl) (by rfl) (.inr ⟨by rfl, by rfl, by rfl⟩) g_ va_ (rdText_q hb (Store.set_get ..)) ?_); rintro _ _ ⟨rfl, rfl⟩
        refine dR_T o_ (by rfl) (by rfl) (AOp_use (by rfl) (by rfl) (.inr ⟨by rfl, by rfl, by rfl⟩) g_ va_ (rdText_q hc (Store.set_get ..)) ?_); rintro _ _ ⟨rfl, rfl⟩
        refine dR_store o_ (by rfl) (by rfl) (by rfl) v_ v_ h_ g_ rfl g_ c_ (by rfl) le_ v_ ?_
        (refine dR_S o_ (by rfl) (by rfl) v_ ?_)
        refine dR_store o_ (by rfl) (by rfl) (by rfl) v_ v_ h_ g_ rfl g_ c_ (by rfl) le_ v_ ?_
        (refine dR_S o_ (by rfl) (by rfl) v_ ?_)
        refine dR_store o_ (by rfl) (by rfl) (by rfl) v_ v_ h_ g_ rfl g_ c_ (by rfl) le_ v_ ?_
        refine dR_nil ?_
        refine ⟨(((((((((σ.set o1 (.cells [.ref o 0])).set o2 (.cells [.lit (.int .i64 0), .lit (.string ⟨#[]⟩), .lit (.string ⟨#[]⟩), .lit (.int .i64 0), .lit (.int .i64 0), .lit (.string ⟨#[]⟩), .lit (.slice none 0 0), .lit (.slice none 0 0), .lit (.slice none 0 0), .lit (.slice none 0 0), .lit (.slice none 0 0), .lit (.slice none 0 0)])).set o3 (.cells [.lit (.int .i64 0), .lit (.string ⟨#[]⟩), .lit (.string ⟨#[]⟩), .lit (.int .i64 0), .lit (.int .i64 0), .lit (.string ⟨#[]⟩), .lit (.slice none 0 0), .lit (.slice none 0 0), .lit (.slice none 0 0), .lit (.slice none 0 0), .lit (.slice none 0 0), .lit (.slice none 0 0)])).set o (rdO a.2)).set o (rdO b.2)).set o (rdO c.2)).set o3 (.cells [vInt a.1, .lit (.string ⟨#[]⟩), .lit (.string ⟨#[]⟩), .lit (.int .i64 0), .lit (.int .i64 0), .lit (.string ⟨#[]⟩), .lit (.slice none 0 0), .lit (.slice none 0 0), .lit (.slice none 0 0), .lit (.slice none 0 0), .lit (.slice none 0 0), .lit (.slice none 0 0)])).set o3 (.cells [vInt a.1, vStr (B b.1), .lit (.string ⟨#[]⟩), .lit (.int .i64 0), .lit (.int .i64 0), .lit (.string ⟨#[]⟩), .lit (.slice none 0 0), .lit (.slice none 0 0), .lit (.slice none 0 0), .lit (.slice none 0 0), .lit (.slice none 0 0), .lit (.slice none 0 0)])).set o3 (.cells [vInt a.1, vStr (B b.1), vStr (B c.1), .lit (.int .i64 0), .lit (.int .i64 0), .lit (.string ⟨#[]⟩), .lit (.slice none 0 0), .lit (.slice none 0 0), .lit (.slice none 0 0), .lit (.slice none 0 0), .lit (.slice none 0 0), .lit (.slice none 0 0)])), ?_, ?_, ?_⟩
        · rw [← hz]; exact ⟨h_, h_, h_, h_, sub_⟩
        · exact cv_
        · exact Store.Wk.refl _
      refine dR_T o_ (by rfl) (by rfl) (AOp_val v_ ?_)
      refine dR_T o_ (by rfl) (by rfl) (AOp_use (by rfl) (by rfl) (.inr ⟨by rfl, by rfl, by rfl⟩) g_ va_ (rdByte_q ha (by simp (disch := omega) only [Store.set_ne, ho])) ?_); rintro _ _ ⟨rfl, rfl⟩
      (refine dR_S o_ (by rfl) (by rfl) v_ ?_)
      refine dR_T o_ (by rfl) (by rfl) (AOp_use (by rfl) (by rfl) (.inr ⟨by rfl, by rfl, by rfl⟩) g_ va_ (rdText_q hb (Store.set_get ..)) ?_); rintro _ _ ⟨rfl, rfl⟩
      refine dR_T o_ (by rfl) (by rfl) (AOp_use (by rfl) (by rfl) (.inr ⟨by rfl, by rfl, by rfl⟩) g_ va_ (rdText_q hc (Store.set_get ..)) ?_); rintro _ _ ⟨rfl, rfl⟩
      refine dR_store o_ (by rfl) (by rfl) (by rfl) v_ v_ h_ g_ rfl g_ c_ (by rfl) le_ v_ ?_
      (refine dR_S o_ (by rfl) (by rfl) v_ ?_)
      refine dR_store o_ (by rfl) (by rfl) (by rfl) v_ v_ h_ g_ rfl g_ c_ (by rfl) le_ v_ ?_
      (refine dR_S o_ (by rfl) (by rfl) v_ ?_)
      refine dR_store o_ (by rfl) (by rfl) (by rfl) v_ v_ h_ g_ rfl g_ c_ (by rfl) le_ v_ ?_
      refine dR_nil ?_
      refine ⟨(((((((((σ.set o1 (.cells [.ref o 0])).set o2 (.cells [.lit (.int .i64 0), .lit (.string ⟨#[]⟩), .lit (.string ⟨#[]⟩), .lit (.int .i64 0), .lit (.int .i64 0), .lit (.string ⟨#[]⟩), .lit (.slice none 0 0), .lit (.slice none 0 0), .lit (.slice none 0 0), .lit (.slice none 0 0), .lit (.slice none 0 0), .lit (.slice none 0 0)])).set o3 (.cells [.lit (.int .i64 0), .lit (.string ⟨#[]⟩), .lit (.string ⟨#[]⟩), .lit (.int .i64 0), .lit (.int .i64 0), .lit (.string ⟨#[]⟩), .lit (.slice none 0 0), .lit (.slice none 0 0), .lit (.slice none 0 0), .lit (.slice none 0 0), .lit (.slice none 0 0), .lit (.slice none 0 0)])).set o (rdO a.2)).set o (rdO b.2)).set o (rdO c.2)).set o3 (.cells [vInt a.1, .lit (.string ⟨#[]⟩), .lit (.string ⟨#[]⟩), .lit (.int .i64 0), .lit (.int .i64 0), .lit (.string ⟨#[]⟩), .lit (.slice none 0 0), .lit (.slice none 0 0), .lit (.slice none 0 0), .lit (.slice none 0 0), .lit (.slice none 0 0), .lit (.slice none 0 0)])).set o3 (.cells [vInt a.1, vStr (B b.1), .lit (.string ⟨#[]⟩), .lit (.int .i64 0), .lit (.int .i64 0), .lit (.string ⟨#[]⟩), .lit (.slice none 0 0), .lit (.slice none 0 0), .lit (.slice none 0 0), .lit (.slice none 0 0), .lit (.slice none 0 0), .lit (.slice none 0 0)])).set o3 (.cells [vInt a.1, vStr (B b.1), vStr (B c.1), .lit (.int .i64 0), .lit (.int .i64 0), .lit (.string ⟨#[]⟩), .lit (.slice none 0 0), .lit (.slice none 0 0), .lit (.slice none 0 0), .lit (.slice none 0 0), .lit (.slice none 0 0), .lit (.slice none 0 0)])), ?_, ?_, ?_⟩
      · rw [← hz]; exact ⟨h_, h_, h_, h_, sub_⟩
      · exact cv_
      · exact Store.Wk.refl _
    refine dR_T o_ (by rfl) (by rfl) (AOp_val v_ ?_)
    refine dR_T o_ (by rfl) (by rfl) (AOp_val v_ ?_)
    refine dR_T o_ (by rfl) (by rfl) (AOp_use (by rfl) (by rfl) (.inr ⟨by rfl, by rfl, by rfl⟩) g_ va_ (rdByte_q ha (by simp (disch := omega) only [Store.set_ne, ho])) ?_); rintro _ _ ⟨rfl, rfl⟩
    (refine dR_S o_ (by rfl) (by rfl) v_ ?_)
    refine dR_T o_ (by rfl) (by rfl) (AOp_use (by rfl) (by rfl) (.inr ⟨by rfl, by rfl, by rfl⟩) g_ va_ (rdText_q hb (Store.set_get ..)) ?_); rintro _ _ ⟨rfl, rfl⟩
    refine dR_T o_ (by rfl) (by rfl) (AOp_use (by rfl) (by rfl) (.inr ⟨by rfl, by rfl, by rfl⟩) g_ va_ (rdText_q hc (Store.set_get ..)) ?_); rintro _ _ ⟨rfl, rfl⟩
    refine dR_store o_ (by rfl) (by rfl) (by rfl) v_ v_ h_ g_ rfl g_ c_ (by rfl) le_ v_ ?_
    (refine dR_S o_ (by rfl) (by rfl) v_ ?_)
    refine dR_store o_ (by rfl) (by rfl) (by rfl) v_ v_ h_ g_ rfl g_ c_ (by rfl) le_ v_ ?_
    (refine dR_S o_ (by rfl) (by rfl) v_ ?_)
    refine dR_store o_ (by rfl) (by rfl) (by rfl) v_ v_ h_ g_ rfl g_ c_ (by rfl) le_ v_ ?_
    refine dR_nil ?_
    refine ⟨(((((((((σ.set o1 (.cells [.ref o 0])).set o2 (.cells [.lit (.int .i64 0), .lit (.string ⟨#[]⟩), .lit (.string ⟨#[]⟩), .lit (.int .i64 0), .lit (.int .i64 0), .lit (.string ⟨#[]⟩), .lit (.slice none 0 0), .lit (.slice none 0 0), .lit (.slice none 0 0), .lit (.slice none 0 0), .lit (.slice none 0 0), .lit (.slice none 0 0)])).set o3 (.cells [.lit (.int .i64 0), .lit (.string ⟨#[]⟩), .lit (.string ⟨#[]⟩), .lit (.int .i64 0), .lit (.int .i64 0), .lit (.string ⟨#[]⟩), .lit (.slice none 0 0), .lit (.slice none 0 0), .lit (.slice none 0 0), .lit (.slice none 0 0), .lit (.slice none 0 0), .lit (.slice none 0 0)])).set o (rdO a.2)).set o (rdO b.2)).set o (rdO c.2)).set o3 (.cells [vInt a.1, .lit (.string ⟨#[]⟩), .lit (.string ⟨#[]⟩), .lit (.int .i64 0), .lit (.int .i64 0), .lit (.string ⟨#[]⟩), .lit (.slice none 0 0), .lit (.slice none 0 0), .lit (.slice none 0 0), .lit (.slice none 0 0), .lit (.slice none 0 0), .lit (.slice none 0 0)])).set o3 (.cells [vInt a.1, vStr (B b.1), .lit (.string ⟨#[]⟩), .lit (.int .i64 0), .lit (.int .i64 0), .lit (.string ⟨#[]⟩), .lit (.slice none 0 0), .lit (.slice none 0 0), .lit (.slice none 0 0), .lit (.slice none 0 0), .lit (.slice none 0 0), .lit (.slice none 0 0)])).set o3 (.cells [vInt a.1, vStr (B b.1), vStr (B c.1), .lit (.int .i64 0), .lit (.int .i64 0), .lit (.string ⟨#[]⟩), .lit (.slice none 0 0), .lit (.slice none 0 0), .lit (.slice none 0 0), .lit (.slice none 0 0), .lit (.slice none 0 0), .lit (.slice none 0 0)])), ?_, ?_, ?_⟩
    · rw [← hz]; exact ⟨h_, h_, h_, h_, sub_⟩
    · exact cv_
    · exact Store.Wk.refl _
  · rintro υ ⟨u1, u2, u3, u4, u5⟩
    simp only [envL_cons, envL_nil]
    refine awp_seq_mid (ι := Store) (fun φ => φ.heap o = some (rdO f.2) ∧ φ.heap o1 = some (.cells [.ref o 0]) ∧ φ.heap o2 = some z ∧ φ.heap o3 = some (.cells [vInt a.1, vStr (B b.1), vStr (B c.1), vInt d.1, vInt e.1, vStr (B f.1), .lit (.slice none 0 0), .lit (.slice none 0 0), .lit (.slice none 0 0), .lit (.slice none 0 0), .lit (.slice none 0 0), .lit (.slice none 0 0)]) ∧ SubX [o] σ φ) (fun φ => [(1, .ref o1 0), (2, .ref o2 0), (3, .ref o3 0)]) (fun φ => φ) ?_ ?_
    · have R := And.intro u2 u4
      refine awp_draw (.alt 0 2 (.alt 1 2 (.op 6 0 (.alt 2 2 (.alt 3 2 (.op 4 2 (.op 5 2 (.op 7 2 (.op 8 0 (.op 9 2 (.op 10 0 (.op 11 2 .nil))))))) (.op 4 2 (.op 3 2 (.op 5 2 (.op 7 2 (.op 8 0 (.op 9 2 (.op 10 0 (.op 11 2 .nil))))))))) (.op 4 2 (.op 2 2 (.op 3 2 (.op 5 2 (.op 7 2 (.op 8 0 (.op 9 2 (.op 10 0 (.op 11 2 .nil))))))))))) (.alt 2 2 (.alt 1 2 (.op 6 0 (.alt 3 2 (.op 4 2 (.op 5 2 (.op 7 2 (.op 8 0 (.op 9 2 (.op 10 0 (.op 11 2 .nil))))))) (.op 4 2 (.op 3 2 (.op 5 2 (.op 7 2 (.op 8 0 (.op 9 2 (.op 10 0 (.op 11 2 .nil)))))))))) (.op 4 2 (.op 1 2 (.op 6 0 (.op 3 2 (.op 5 2 (.op 7 2 (.op 8 0 (.op 9 2 (.op 10 0 (.op 11 2 .nil))))))))))) (.op 4 2 (.alt 1 2 (.op 6 0 (.op 2 2 (.op 3 2 (.op 5 2 (.op 7 2 (.op 8 0 (.op 9 2 (.op 10 0 (.op 11 2 .nil))))))))) (.op 2 2 (.op 1 2 (.op 6 0 (.op 3 2 (.op 5 2 (.op 7 2 (.op 8 0 (.op 9 2 (.op 10 0 (.op 11 2 .nil)))))))))))))) (.alt 2 2 (.alt 0 2 (.alt 1 2 (.op 6 0 (.alt 3 2 (.op 4 2 (.op 5 2 (.op 7 2 (.op 8 0 (.op 9 2 (.op 10 0 (.op 11 2 .nil))))))) (.op 4 2 (.op 3 2 (.op 5 2 (.op 7 2 (.op 8 0 (.op 9 2 (.op 10 0 (.op 11 2 .nil)))))))))) (.op 4 2 (.op 1 2 (.op 6 0 (.op 3 2 (.op 5 2 (.op 7 2 (.op 8 0 (.op 9 2 (.op 10 0 (.op 11 2 .nil))))))))))) (.op 4 2 (.op 0 2 (.op 1 2 (.op 6 0 (.op 3 2 (.op 5 2 (.op 7 2 (.op 8 0 (.op 9 2 (.op 10 0 (.op 11 2 .nil)))))))))))) (.op 4 2 (.alt 0 2 (.alt 1 2 (.op 6 0 (.op 2 2 (.op 3 2 (.op 5 2 (.op 7 2 (.op 8 0 (.op 9 2 (.op 10 0 (.op 11 2 .nil))))))))) (.op 2 2 (.op 1 2 (.op 6 0 (.op 3 2 (.op 5 2 (.op 7 2 (.op 8 0 (.op 9 2 (.op 10 0 (.op 11 2 .nil))))))))))) (.op 2 2 (.op 0 2 (.op 1 2 (.op 6 0 (.op 3 2 (.op 5 2 (.op 7 2 (.op 8 0 (.op 9 2 (.op 10 0 (.op 11 2 .nil))))))))))))))) Tryz.mixed (by kernel_rfl) ?_
      refine dR_alt ?_ ?_
      · refine dR_T o_ (by rfl) (by rfl) (AOp_val v_ ?_)
        refine dR_alt ?_ ?_
        · refine dR_T o_ (by rfl) (by rfl) (AOp_use (by rfl) (by rfl) (.inr ⟨by rfl, by rfl, by rfl⟩) g_ va_ (rdInt_q hd (by simp (disch := omega) only [Store.set_ne, u1])) ?_); rintro _ _ ⟨rfl, rfl⟩
          (refine dR_S o_ (by rfl) (by rfl) v_ ?_)
          refine dR_alt ?_ ?_
          · refine dR_T o_ (by rfl) (by rfl) (AOp_val v_ ?_)
            refine dR_alt ?_ ?_
            · refine dR_T o_ (by rfl) (by rfl) (AOp_use (by rfl) (by rfl) (.inr ⟨by rfl, by rfl, by rfl⟩) g_ va_ (rdByte_q he (Store.set_get ..)) ?_); rintro _ _ ⟨rfl, rfl⟩
              refine dR_T o_ (by rfl) (by rfl) (AOp_val v_ ?_)
              refine dR_T o_ (by rfl) (by rfl) (AOp_use (by rfl) (by rfl) (.inr ⟨by rfl, by rfl, by rfl⟩) g_ va_ (rdText_q hf (Store.set_get ..)) ?_); rintro _ _ ⟨rfl, rfl⟩
              refine dR_store o_ (by rfl) (by rfl) (by rfl) v_ v_ h_ g_ rfl g_ c_ (by rfl) le_ v_ ?_
              (refine dR_S o_ (by rfl) (by rfl) v_ ?_)
              refine dR_store o_ (by rfl) (by rfl) (by rfl) v_ v_ h_ g_ rfl g_ c_ (by rfl) le_ v_ ?_
              (refine dR_S o_ (by rfl) (by rfl) v_ ?_)
              refine dR_store o_ (by rfl) (by rfl) (by rfl) v_ v_ h_ g_ rfl g_ c_ (by rfl) le_ v_ ?_
              refine dR_nil ?_
              refine ⟨((((((υ.set o (rdO d.2)).set o (rdO e.2)).set o (rdO f.2)).set o3 (.cells [vInt a.1, vStr (B b.1), vStr (B c.1), vInt d.1, .lit (.int .i64 0), .lit (.string ⟨#[]⟩), .lit (.slice none 0 0), .lit (.slice none 0 0), .lit (.slice none 0 0), .lit (.slice none 0 0), .lit (.slice none 0 0), .lit (.slice none 0 0)])).set o3 (.cells [vInt a.1, vStr (B b.1), vStr (B c.1), vInt d.1, vInt e.1, .lit (.string ⟨#[]⟩), .lit (.slice none 0 0), .lit (.slice none 0 0), .lit (.slice none 0 0), .lit (.slice none 0 0), .lit (.slice none 0 0), .lit (.slice none 0 0)])).set o3 (.cells [vInt a.1, vStr (B b.1), vStr (B c.1), vInt d.1, vInt e.1, vStr (B f.1), .lit (.slice none 0 0), .lit (.slice none 0 0), .lit (.slice none 0 0), .lit (.slice none 0 0), .lit (.slice none 0 0), .lit (.slice none 0 0)])), ?_, ?_, ?_⟩
              · exact ⟨by simp (disch := omega) only [Store.set_ne, Store.set_get], by simp (disch := omega) only [Store.set_ne, u2], by simp (disch := omega) only [Store.set_ne, u3], h_, subx_new ho3 (subx_new ho3 (subx_new ho3 (subx_in (.head _) (subx_in (.head _) (subx_in (.head _) u5)))))⟩
              · exact cv_
              · exact Store.Wk.refl _
            refine dR_T o_ (by rfl) (by rfl) (AOp_val v_ ?_)
            refine dR_T o_ (by rfl) (by rfl) (AOp_use (by rfl) (by rfl) (.inr ⟨by rfl, by rfl, by rfl⟩) g_ va_ (rdByte_q he (Store.set_get ..)) ?_); rintro _ _ ⟨rfl, rfl⟩
            refine dR_T o_ (by rfl) (by rfl) (AOp_use (by rfl) (by rfl) (.inr ⟨by rfl, by rfl, by rfl⟩) g_ va_ (rdText_q hf (Store.set_get ..)) ?_); rintro _ _ ⟨rfl, rfl⟩
            refine dR_store o_ (by rfl) (by rfl) (by rfl) v_ v_ h_ g_ rfl g_ c_ (by rfl) le_ v_ ?_
            (refine dR_S o_ (by rfl) (by rfl) v_ ?_)
            refine dR_store o_ (by rfl) (by rfl) (by rfl) v_ v_ h_ g_ rfl g_ c_ (by rfl) le_ v_ ?_
            (refine dR_S o_ (by rfl) (by rfl) v_ ?_)
            refine dR_store o_ (by rfl) (by rfl) (by rfl) v_ v_ h_ g_ rfl g_ c_ (by rfl) le_ v_ ?_
            refine dR_nil ?_
            refine ⟨((((((υ.set o (rdO d.2)).set o (rdO e.2)).set o (rdO f.2)).set o3 (.cells [vInt a.1, vStr (B b.1), vStr (B c.1), vInt d.1, .lit (.int .i64 0), .lit (.string ⟨#[]⟩), .lit (.slice none 0 0), .lit (.slice none 0 0), .lit (.slice none 0 0), .lit (.slice none 0 0), .lit (.slice none 0 0), .lit (.slice none 0 0)])).set o3 (.cells [vInt a.1, vStr (B b.1), vStr (B c.1), vInt d.1, vInt e.1, .lit (.string ⟨#[]⟩), .lit (.slice none 0 0), .lit (.slice none 0 0), .lit (.slice none 0 0), .lit (.slice none 0 0), .lit (.slice none 0 0), .lit (.slice none 0 0)])).set o3 (.cells [vInt a.1, vStr (B b.1), vStr (B c.1), vInt d.1, vInt e.1, vStr (B f.1), .lit (.slice none 0 0), .lit (.slice none 0 0), .lit (.slice none 0 0), .lit (.slice none 0 0), .lit (.slice none 0 0), .lit (.slice none 0 0)])), ?_, ?_, ?_⟩
            · exact ⟨by simp (disch := omega) only [Store.set_ne, Store.set_get], by simp (disch := omega) only [Store.set_ne, u2], by simp (disch := omega) only [Store.set_ne, u3], h_, subx_new ho3 (subx_new ho3 (subx_new ho3 (subx_in (.head _) (subx_in (.head _) (subx_in (.head _) u5)))))⟩
            · exact cv_
            · exact Store.Wk.refl _
          refine dR_T o_ (by rfl) (by rfl) (AOp_val v_ ?_)
          refine dR_T o_ (by rfl) (by rfl) (AOp_val v_ ?_)
          refine dR_T o_ (by rfl) (by rfl) (AOp_use (by rfl) (by rfl) (.inr ⟨by rfl, by rfl, by rfl⟩) g_ va_ (rdByte_q he (Store.set_get ..)) ?_); rintro _ _ ⟨rfl, rfl⟩
          refine dR_T o_ (by rfl) (by rfl) (AOp_use (by rfl) (by rfl) (.inr ⟨by rfl, by rfl, by rfl⟩) g_ va_ (rdText_q hf (Store.set_get ..)) ?_); rintro _ _ ⟨rfl, rfl⟩
          refine dR_store o_ (by rfl) (by rfl) (by rfl) v_ v_ h_ g_ rfl g_ c_ (by rfl) le_ v_ ?_
          (refine dR_S o_ (by rfl) (by rfl) v_ ?_)
          refine dR_store o_ (by rfl) (by rfl) (by rfl) v_ v_ h_ g_ rfl g_ c_ (by rfl) le_ v_ ?_
          (refine dR_S o_ (by rfl) (by rfl) v_ ?_)
          refine dR_store o_ (by rfl) (by rfl) (by rfl) v_ v_ h_ g_ rfl g_ c_ (by rfl) le_ v_ ?_
          refine dR_nil ?_
          refine ⟨((((((υ.set o (rdO d.2)).set o (rdO e.2)).set o (rdO f.2)).set o3 (.cells [vInt a.1, vStr (B b.1), vStr (B c.1), vInt d.1, .lit (.int .i64 0), .lit (.string ⟨#[]⟩), .lit (.slice none 0 0), .lit (.slice none 0 0), .lit (.slice none 0 0), .lit (.slice none 0 0), .lit (.slice none 0 0), .lit (.slice none 0 0)])).set o3 (.cells [vInt a.1, vStr (B b.1), vStr (B c.1), vInt d.1, vInt e.1, .lit (.string ⟨#[]⟩), .lit (.slice none 0 0), .lit (.slice none 0 0), .lit (.slice none 0 0), .lit (.slice none 0 0), .lit (.slice none 0 0), .lit (.slice none 0 0)])).set o3 (.cells [vInt a.1, vStr (B b.1), vStr (B c.1), vInt d.1, vInt e.1, vStr (B f.1), .lit (.slice none 0 0), .lit (.slice none 0 0), .lit (.slice none 0 0), .lit (.slice none 0 0), .lit (.slice none 0 0), .lit (.slice none 0 0)])), ?_, ?_, ?_⟩
          · exact ⟨by simp (disch := omega) only [Store.set_ne, Store.set_get], by simp (disch := omega) only [Store.set_ne, u2], by simp (disch := omega) only [Store.set_ne, u3], h_, subx_new ho3 (subx_new ho3 (subx_new ho3 (subx_in (.head _) (subx_in (.head _) (subx_in (.head _) u5)))))⟩
          · exact cv_
          · exact Store.Wk.refl _
        refine dR_alt ?_ ?_
        · refine dR_T o_ (by rfl) (by rfl) (AOp_val v_ ?_)
          refine dR_alt ?_ ?_
          · refine dR_T o_ (by rfl) (by rfl) (AOp_use (by rfl) (by rfl) (.inr ⟨by rfl, by rfl, by rfl⟩) g_ va_ (rdInt_q hd (by simp (disch := omega) only [Store.set_ne, u1])) ?_); rintro _ _ ⟨rfl, rfl⟩
            (refine dR_S o_ (by rfl) (by rfl) v_ ?_)
            refine dR_alt ?_ ?_
            · refine dR_T o_ (by rfl) (by rfl) (AOp_use (by rfl) (by rfl) (.inr ⟨by rfl, by rfl, by rfl⟩) g_ va_ (rdByte_q he (Store.set_get ..)) ?_); rintro _ _ ⟨rfl, rfl⟩
              refine dR_T o_ (by rfl) (by rfl) (AOp_val v_ ?_)
              refine dR_T o_ (by rfl) (by rfl) (AOp_use (by rfl) (by rfl) (.inr ⟨by rfl, by rfl, by rfl⟩) g_ va_ (rdText_q hf (Store.set_get ..)) ?_); rintro _ _ ⟨rfl, rfl⟩
              refine dR_store o_ (by rfl) (by rfl) (by rfl) v_ v_ h_ g_ rfl g_ c_ (by rfl) le_ v_ ?_
              (refine dR_S o_ (by rfl) (by rfl) v_ ?_)
              refine dR_store o_ (by rfl) (by rfl) (by rfl) v_ v_ h_ g_ rfl g_ c_ (by rfl) le_ v_ ?_
              (refine dR_S o_ (by rfl) (by rfl) v_ ?_)
              refine dR_store o_ (by rfl) (by rfl) (by rfl) v_ v_ h_ g_ rfl g_ c_ (by rfl) le_ v_ ?_
              refine dR_nil ?_
              refine ⟨((((((υ.set o (rdO d.2)).set o (rdO e.2)).set o (rdO f.2)).set o3 (.cells [vInt a.1, vStr (B b.1), vStr (B c.1), vInt d.1, .lit (.int .i64 0), .lit (.string ⟨#[]⟩), .lit (.slice none 0 0), .lit (.slice none 0 0), .lit (.slice none 0 0), .lit (.slice none 0 0), .lit (.slice none 0 0), .lit (.slice none 0 0)])).set o3 (.cells [vInt a.1, vStr (B b.1), vStr (B c.1), vInt d.1, vInt e.1, .lit (.string ⟨#[]⟩), .lit (.slice none 0 0), .lit (.slice none 0 0), .lit (.slice none 0 0), .lit (.slice none 0 0), .lit (.slice none 0 0), .lit (.slice none 0 0)])).set o3 (.cells [vInt a.1, vStr (B b.1), vStr (B c.1), vInt d.1, vInt e.1, vStr (B f.1), .lit (.slice none 0 0), .lit (.slice none 0 0), .lit (.slice none 0 0), .lit (.slice none 0 0), .lit (.slice none 0 0), .lit (.slice none 0 0)])), ?_, ?_, ?_⟩
              · exact ⟨by simp (disch := omega) only [Store.set_ne, Store.set_get], by simp (disch := omega) only [Store.set_ne, u2], by simp (disch := omega) only [Store.set_ne, u3], h_, subx_new ho3 (subx_new ho3 (subx_new ho3 (subx_in (.head _) (subx_in (.head _) (subx_in (.head _) u5)))))⟩
              · exact cv_
              · exact Store.Wk.refl _
            refine dR_T o_ (by rfl) (by rfl) (AOp_val v_ ?_)
            refine dR_T o_ (by rfl) (by rfl) (AOp_use (by rfl) (by rfl) (.inr ⟨by rfl, by rfl, by rfl⟩) g_ va_ (rdByte_q he (Store.set_get ..)) ?_); rintro _ _ ⟨rfl, rfl⟩
            refine dR_T o_ (by rfl) (by rfl) (AOp_use (by rfl) (by rfl) (.inr ⟨by rfl, by rfl, by rfl⟩) g_ va_ (rdText_q hf (Store.set_get ..)) ?_); rintro _ _ ⟨rfl, rfl⟩
            refine dR_store o_ (by rfl) (by rfl) (by rfl) v_ v_ h_ g_ rfl g_ c_ (by rfl) le_ v_ ?_
            (refine dR_S o_ (by rfl) (by rfl) v_ ?_)
            refine dR_store o_ (by rfl) (by rfl) (by rfl) v_ v_ h_ g_ rfl g_ c_ (by rfl) le_ v_ ?_
            (refine dR_S o_ (by rfl) (by rfl) v_ ?_)
            refine dR_store o_ (by rfl) (by rfl) (by rfl) v_ v_ h_ g_ rfl g_ c_ (by rfl) le_ v_ ?_
            refine dR_nil ?_
            refine ⟨((((((υ.set o (rdO d.2)).set o (rdO e.2)).set o (rdO f.2)).set o3 (.cells [vInt a.1, vStr (B b.1), vStr (B c.1), vInt d.1, .lit (.int .i64 0), .lit (.string ⟨#[]⟩), .lit (.slice none 0 0), .lit (.slice none 0 0), .lit (.slice none 0 0), .lit (.slice none 0 0), .lit (.slice none 0 0), .lit (.slice none 0 0)])).set o3 (.cells [vInt a.1, vStr (B b.1), vStr (B c.1), vInt d.1, vInt e.1, .lit (.string ⟨#[]⟩), .lit (.slice none 0 0), .lit (.slice none 0 0), .lit (.slice none 0 0), .lit (.slice none 0 0), .lit (.slice none 0 0), .lit (.slice none 0 0)])).set o3 (.cells [vInt a.1, vStr (B b.1), vStr (B c.1), vInt d.1, vInt e.1, vStr (B f.1), .lit (.slice none 0 0), .lit (.slice none 0 0), .lit (.slice none 0 0), .lit (.slice none 0 0), .lit (.slice none 0 0), .lit (.slice none 0 0)])), ?_, ?_, ?_⟩
            · exact ⟨by simp (disch := omega) only [Store.set_ne, Store.set_get], by simp (disch := omega) only [Store.set_ne, u2], by simp (disch := omega) only [Store.set_ne, u3], h_, subx_new ho3 (subx_new ho3 (subx_new ho3 (subx_in (.head _) (subx_in (.head _) (subx_in (.head _) u5)))))⟩
            · exact cv_
            · exact Store.Wk.refl _
          refine dR_T o_ (by rfl) (by rfl) (AOp_val v_ ?_)
          refine dR_T o_ (by rfl) (by rfl) (AOp_use (by rfl) (by rfl) (.inr ⟨by rfl, by rfl, by rfl⟩) g_ va_ (rdInt_q hd (by simp (disch := omega) only [Store.set_ne, u1])) ?_); rintro _ _ ⟨rfl, rfl⟩
          (refine dR_S o_ (by rfl) (by rfl) v_ ?_)
          refine dR_T o_ (by rfl) (by rfl) (AOp_use (by rfl) (by rfl) (.inr ⟨by rfl, by rfl, by rfl⟩) g_ va_ (rdByte_q he (Store.set_get ..)) ?_); rintro _ _ ⟨rfl, rfl⟩
          refine dR_T o_ (by rfl) (by rfl) (AOp_use (by rfl) (by rfl) (.inr ⟨by rfl, by rfl, by rfl⟩) g_ va_ (rdText_q hf (Store.set_get ..)) ?_); rintro _ _ ⟨rfl, rfl⟩
          refine dR_store o_ (by rfl) (by rfl) (by rfl) v_ v_ h_ g_ rfl g_ c_ (by rfl) le_ v_ ?_
          (refine dR_S o_ (by rfl) (by rfl) v_ ?_)
          refine dR_store o_ (by rfl) (by rfl) (by rfl) v_ v_ h_ g_ rfl g_ c_ (by rfl) le_ v_ ?_
          (refine dR_S o_ (by rfl) (by rfl) v_ ?_)
          refine dR_store o_ (by rfl) (by rfl) (by rfl) v_ v_ h_ g_ rfl g_ c_ (by rfl) le_ v_ ?_
          refine dR_nil ?_
          refine ⟨((((((υ.set o (rdO d.2)).set o (rdO e.2)).set o (rdO f.2)).set o3 (.cells [vInt a.1, vStr (B b.1), vStr (B c.1), vInt d.1, .lit (.int .i64 0), .lit (.string ⟨#[]⟩), .lit (.slice none 0 0), .lit (.slice none 0 0), .lit (.slice none 0 0), .lit (.slice none 0 0), .lit (.slice none 0 0), .lit (.slice none 0 0)])).set o3 (.cells [vInt a.1, vStr (B b.1), vStr (B c.1), vInt d.1, vInt e.1, .lit (.string ⟨#[]⟩), .lit (.slice none 0 0), .lit (.slice none 0 0), .lit (.slice none 0 0), .lit (.slice none 0 0), .lit (.slice none 0 0), .lit (.slice none 0 0)])).set o3 (.cells [vInt a.1, vStr (B b.1), vStr (B c.1), vInt d.1, vInt e.1, vStr (B f.1), .lit (.slice none 0 0), .lit (.slice none 0 0), .lit (.slice none 0 0), .lit (.slice none 0 0), .lit (.slice none 0 0), .lit (.slice none 0 0)])), ?_, ?_, ?_⟩
          · exact ⟨by simp (disch := omega) only [Store.set_ne, Store.set_get], by simp (disch := omega) only [Store.set_ne, u2], by simp (disch := omega) only [Store.set_ne, u3], h_, subx_new ho3 (subx_new ho3 (subx_new ho3 (subx_in (.head _) (subx_in (.head _) (subx_in (.head _) u5)))))⟩
          · exact cv_
          · exact Store.Wk.refl _
        refine dR_T o_ (by rfl) (by rfl) (AOp_val v_ ?_)
        refine dR_alt ?_ ?_
        · refine dR_T o_ (by rfl) (by rfl) (AOp_use (by rfl) (by rfl) (.inr ⟨by rfl, by rfl, by rfl⟩) g_ va_ (rdInt_q hd (by simp (disch := omega) only [Store.set_ne, u1])) ?_); rintro _ _ ⟨rfl, rfl⟩
          (refine dR_S o_ (by rfl) (by rfl) v_ ?_)
          refine dR_T o_ (by rfl) (by rfl) (AOp_val v_ ?_)
          refine dR_T o_ (by rfl) (by rfl) (AOp_use (by rfl) (by rfl) (.inr ⟨by rfl, by rfl, by rfl⟩) g_ va_ (rdByte_q he (Store.set_get ..)) ?_); rintro _ _ ⟨rfl, rfl⟩
          refine dR_T o_ (by rfl) (by rfl) (AOp_use (by rfl) (by rfl) (.inr ⟨by rfl, by rfl, by rfl⟩) g_ va_ (rdText_q hf (Store.set_get ..)) ?_); rintro _ _ ⟨rfl, rfl⟩
          refine dR_store o_ (by rfl) (by rfl) (by rfl) v_ v_ h_ g_ rfl g_ c_ (by rfl) le_ v_ ?_
          (refine dR_S o_ (by rfl) (by rfl) v_ ?_)
          refine dR_store o_ (by rfl) (by rfl) (by rfl) v_ v_ h_ g_ rfl g_ c_ (by rfl) le_ v_ ?_
          (refine dR_S o_ (by rfl) (by rfl) v_ ?_)
          refine dR_store o_ (by rfl) (by rfl) (by rfl) v_ v_ h_ g_ rfl g_ c_ (by rfl) le_ v_ ?_
          refine dR_nil ?_
          refine ⟨((((((υ.set o (rdO d.2)).set o (rdO e.2)).set o (rdO f.2)).set o3 (.cells [vInt a.1, vStr (B b.1), vStr (B c.1), vInt d.1, .lit (.int .i64 0), .lit (.string ⟨#[]⟩), .lit (.slice none 0 0), .lit (.slice none 0 0), .lit (.slice none 0 0), .lit (.slice none 0 0), .lit (.slice none 0 0), .lit (.slice none 0 0)])).set o3 (.cells [vInt a.1, vStr (B b.1), vStr (B c.1), vInt d.1, vInt e.1, .lit (.string ⟨#[]⟩), .lit (.slice none 0 0), .lit (.slice none 0 0), .lit (.slice none 0 0), .lit (.slice none 0 0), .lit (.slice none 0 0), .lit (.slice none 0 0)])).set o3 (.cells [vInt a.1, vStr (B b.1), vStr (B c.1), vInt d.1, vInt e.1, vStr (B f.1), .lit (.slice none 0 0), .lit (.slice none 0 0), .lit (.slice none 0 0), .lit (.slice none 0 0), .lit (.slice none 0 0), .lit (.slice none 0 0)])), ?_, ?_, ?_⟩
          · exact ⟨by simp (disch := omega) only [Store.set_ne, Store.set_get], by simp (disch := omega) only [Store.set_ne, u2], by simp (disch := omega) only [Store.set_ne, u3], h_, subx_new ho3 (subx_new ho3 (subx_new ho3 (subx_in (.head _) (subx_in (.head _) (subx_in (.head _) u5)))))⟩
          · exact cv_
          · exact Store.Wk.refl _
        refine dR_T o_ (by rfl) (by rfl) (AOp_val v_ ?_)
        refine dR_T o_ (by rfl) (by rfl) (AOp_use (by rfl) (by rfl) (.inr ⟨by rfl, by rfl, by rfl⟩) g_ va_ (rdInt_q hd (by simp (disch := omega) only [Store.set_ne, u1])) ?_); rintro _ _ ⟨rfl, rfl⟩
        (refine dR_S o_ (by rfl) (by rfl) v_ ?_)
        refine dR_T o_ (by rfl) (by rfl) (AOp_use (by rfl) (by rfl) (.inr ⟨by rfl, by rfl, by rfl⟩) g_ va_ (rdByte_q he (Store.set_get ..)) ?_); rintro _ _ ⟨rfl, rfl⟩
        refine dR_T o_ (by rfl) (by rfl) (AOp_use (by rfl) (by rfl) (.inr ⟨by rfl, by rfl, by rfl⟩) g_ va_ (rdText_q hf (Store.set_get ..)) ?_); rintro _ _ ⟨rfl, rfl⟩
        refine dR_store o_ (by rfl) (by rfl) (by rfl) v_ v_ h_ g_ rfl g_ c_ (by rfl) le_ v_ ?_
        (refine dR_S o_ (by rfl) (by rfl) v_ ?_)
        refine dR_store o_ (by rfl) (by rfl) (by rfl) v_ v_ h_ g_ rfl g_ c_ (by rfl) le_ v_ ?_
        (refine dR_S o_ (by rfl) (by rfl) v_ ?_)
        refine dR_store o_ (by rfl) (by rfl) (by rfl) v_ v_ h_ g_ rfl g_ c_ (by rfl) le_ v_ ?_
        refine dR_nil ?_
        refine ⟨((((((υ.set o (rdO d.2)).set o (rdO e.2)).set o (rdO f.2)).set o3 (.cells [vInt a.1, vStr (B b.1), vStr (B c.1), vInt d.1, .lit (.int .i64 0), .lit (.string ⟨#[]⟩), .lit (.slice none 0 0), .lit (.slice none 0 0), .lit (.slice none 0 0), .lit (.slice none 0 0), .lit (.slice none 0 0), .lit (.slice none 0 0)])).set o3 (.cells [vInt a.1, vStr (B b.1), vStr (B c.1), vInt d.1, vInt e.1, .lit (.string ⟨#[]⟩), .lit (.slice none 0 0), .lit (.slice none 0 0), .lit (.slice none 0 0), .lit (.slice none 0 0), .lit (.slice none 0 0), .lit (.slice none 0 0)])).set o3 (.cells [vInt a.1, vStr (B b.1), vStr (B c.1), vInt d.1, vInt e.1, vStr (B f.1), .lit (.slice none 0 0), .lit (.slice none 0 0), .lit (.slice none 0 0), .lit (.slice none 0 0), .lit (.slice none 0 0), .lit (.slice none 0 0)])), ?_, ?_, ?_⟩
        · exact ⟨by simp (disch := omega) only [Store.set_ne, Store.set_get], by simp (disch := omega) only [Store.set_ne, u2], by simp (disch := omega) only [Store.set_ne, u3], h_, subx_new ho3 (subx_new ho3 (subx_new ho3 (subx_in (.head _) (subx_in (.head _) (subx_in (.head _) u5)))))⟩
        · exact cv_
        · exact Store.Wk.refl _
      refine dR_alt ?_ ?_
      · refine dR_T o_ (by rfl) (by rfl) (AOp_val v_ ?_)
        refine dR_alt ?_ ?_
        · refine dR_T o_ (by rfl) (by rfl) (AOp_val v_ ?_)
          refine dR_alt ?_ ?_
          · refine dR_T o_ (by rfl) (by rfl) (AOp_use (by rfl) (by rfl) (.inr ⟨by rfl, by rfl, by rfl⟩) g_ va_ (rdInt_q hd (by simp (disch := omega) only [Store.set_ne, u1])) ?_); rintro _ _ ⟨rfl, rfl⟩
            (refine dR_S o_ (by rfl) (by rfl) v_ ?_)
            refine dR_alt ?_ ?_
            · refine dR_T o_ (by rfl) (by rfl) (AOp_use (by rfl) (by rfl) (.inr ⟨by rfl, by rfl, by rfl⟩) g_ va_ (rdByte_q he (Store.set_get ..)) ?_); rintro _ _ ⟨rfl, rfl⟩
              refine dR_T o_ (by rfl) (by rfl) (AOp_val v_ ?_)
              refine dR_T o_ (by rfl) (by rfl) (AOp_use (by rfl) (by rfl) (.inr ⟨by rfl, by rfl, by rfl⟩) g_ va_ (rdText_q hf (Store.set_get ..)) ?_); rintro _ _ ⟨rfl, rfl⟩
              refine dR_store o_ (by rfl) (by rfl) (by rfl) v_ v_ h_ g_ rfl g_ c_ (by rfl) le_ v_ ?_
              (refine dR_S o_ (by rfl) (by rfl) v_ ?_)
              refine dR_store o_ (by rfl) (by rfl) (by rfl) v_ v_ h_ g_ rfl g_ c_ (by rfl) le_ v_ ?_
              (refine dR_S o_ (by rfl) (by rfl) v_ ?_)
              refine dR_store o_ (by rfl) (by rfl) (by rfl) v_ v_ h_ g_ rfl g_ c_ (by rfl) le_ v_ ?_
              refine dR_nil ?_
              refine ⟨((((((υ.set o (rdO d.2)).set o (rdO e.2)).set o (rdO f.2)).set o3 (.cells [vInt a.1, vStr (B b.1), vStr (B c.1), vInt d.1, .lit (.int .i64 0), .lit (.string ⟨#[]⟩), .lit (.slice none 0 0), .lit (.slice none 0 0), .lit (.slice none 0 0), .lit (.slice none 0 0), .lit (.slice none 0 0), .lit (.slice none 0 0)])).set o3 (.cells [vInt a.1, vStr (B b.1), vStr (B c.1), vInt d.1, vInt e.1, .lit (.string ⟨#[]⟩), .lit (.slice none 0 0), .lit (.slice none 0 0), .lit (.slice none 0 0), .lit (.slice none 0 0), .lit (.slice none 0 0), .lit (.slice none 0 0)])).set o3 (.cells [vInt a.1, vStr (B b.1), vStr (B c.1), vInt d.1, vInt e.1, vStr (B f.1), .lit (.slice none 0 0), .lit (.slice none 0 0), .lit (.slice none 0 0), .lit (.slice none 0 0), .lit (.slice none 0 0), .lit (.slice none 0 0)])), ?_, ?_, ?_⟩
              · exact ⟨by simp (disch := omega) only [Store.set_ne, Store.set_get], by simp (disch := omega) only [Store.set_ne, u2], by simp (disch := omega) only [Store.set_ne, u3], h_, subx_new ho3 (subx_new ho3 (subx_new ho3 (subx_in (.head _) (subx_in (.head _) (subx_in (.head _) u5)))))⟩
              · exact cv_
              · exact Store.Wk.refl _
            refine dR_T o_ (by rfl) (by rfl) (AOp_val v_ ?_)
            refine dR_T o_ (by rfl) (by rfl) (AOp_use (by rfl) (by rfl) (.inr ⟨by rfl, by rfl, by rfl⟩) g_ va_ (rdByte_q he (Store.set_get ..)) ?_); rintro _ _ ⟨rfl, rfl⟩
            refine dR_T o_ (by rfl) (by rfl) (AOp_use (by rfl) (by rfl) (.inr ⟨by rfl, by rfl, by rfl⟩) g_ va_ (rdText_q hf (Store.set_get ..)) ?_); rintro _ _ ⟨rfl, rfl⟩
            refine dR_store o_ (by rfl) (by rfl) (by rfl) v_ v_ h_ g_ rfl g_ c_ (by rfl) le_ v_ ?_
            (refine dR_S o_ (by rfl) (by rfl) v_ ?_)
            refine dR_store o_ (by rfl) (by rfl) (by rfl) v_ v_ h_ g_ rfl g_ c_ (by rfl) le_ v_ ?_
            (refine dR_S o_ (by rfl) (by rfl) v_ ?_)
            refine dR_store o_ (by rfl) (by rfl) (by rfl) v_ v_ h_ g_ rfl g_ c_ (by rfl) le_ v_ ?_
            refine dR_nil ?_
            refine ⟨((((((υ.set o (rdO d.2)).set o (rdO e.2)).set o (rdO f.2)).set o3 (.cells [vInt a.1, vStr (B b.1), vStr (B c.1), vInt d.1, .lit (.int .i64 0), .lit (.string ⟨#[]⟩), .lit (.slice none 0 0), .lit (.slice none 0 0), .lit (.slice none 0 0), .lit (.slice none 0 0), .lit (.slice none 0 0), .lit (.slice none 0 0)])).set o3 (.cells [vInt a.1, vStr (B b.1), vStr (B c.1), vInt d.1, vInt e.1, .lit (.string ⟨#[]⟩), .lit (.slice none 0 0), .lit (.slice none 0 0), .lit (.slice none 0 0), .lit (.slice none 0 0), .lit (.slice none 0 0), .lit (.slice none 0 0)])).set o3 (.cells [vInt a.1, vStr (B b.1), vStr (B c.1), vInt d.1, vInt e.1, vStr (B f.1), .lit (.slice none 0 0), .lit (.slice none 0 0), .lit (.slice none 0 0), .lit (.slice none 0 0), .lit (.slice none 0 0), .lit (.slice none 0 0)])), ?_, ?_, ?_⟩
            · exact ⟨by simp (disch := omega) only [Store.set_ne, Store.set_get], by simp (disch := omega) only [Store.set_ne, u2], by simp (disch := omega) only [Store.set_ne, u3], h_, subx_new ho3 (subx_new ho3 (subx_new ho3 (subx_in (.head _) (subx_in (.head _) (subx_in (.head _) u5)))))⟩
            · exact cv_
            · exact Store.Wk.refl _
          refine dR_T o_ (by rfl) (by rfl) (AOp_val v_ ?_)
          refine dR_T o_ (by rfl) (by rfl) (AOp_use (by rfl) (by rfl) (.inr ⟨by rfl, by rfl, by rfl⟩) g_ va_ (rdInt_q hd (by simp (disch := omega) only [Store.set_ne, u1])) ?_); rintro _ _ ⟨rfl, rfl⟩
          (refine dR_S o_ (by rfl) (by rfl) v_ ?_)
          refine dR_T o_ (by rfl) (by rfl) (AOp_use (by rfl) (by rfl) (.inr ⟨by rfl, by rfl, by rfl⟩) g_ va_ (rdByte_q he (Store.set_get ..)) ?_); rintro _ _ ⟨rfl, rfl⟩
          refine dR_T o_ (by rfl) (by rfl) (AOp_use (by rfl) (by rfl) (.inr ⟨by rfl, by rfl, by rfl⟩) g_ va_ (rdText_q hf (Store.set_get ..)) ?_); rintro _ _ ⟨rfl, rfl⟩
          refine dR_store o_ (by rfl) (by rfl) (by rfl) v_ v_ h_ g_ rfl g_ c_ (by rfl) le_ v_ ?_
          (refine dR_S o_ (by rfl) (by rfl) v_ ?_)
          refine dR_store o_ (by rfl) (by rfl) (by rfl) v_ v_ h_ g_ rfl g_ c_ (by rfl) le_ v_ ?_
          (refine dR_S o_ (by rfl) (by rfl) v_ ?_)
          refine dR_store o_ (by rfl) (by rfl) (by rfl) v_ v_ h_ g_ rfl g_ c_ (by rfl) le_ v_ ?_
          refine dR_nil ?_
          refine ⟨((((((υ.set o (rdO d.2)).set o (rdO e.2)).set o (rdO f.2)).set o3 (.cells [vInt a.1, vStr (B b.1), vStr (B c.1), vInt d.1, .lit (.int .i64 0), .lit (.string ⟨#[]⟩), .lit (.slice none 0 0), .lit (.slice none 0 0), .lit (.slice none 0 0), .lit (.slice none 0 0), .lit (.slice none 0 0), .lit (.slice none 0 0)])).set o3 (.cells [vInt a.1, vStr (B b.1), vStr (B c.1), vInt d.1, vInt e.1, .lit (.string ⟨#[]⟩), .lit (.slice none 0 0), .lit (.slice none 0 0), .lit (.slice none 0 0), .lit (.slice none 0 0), .lit (.slice none 0 0), .lit (.slice none 0 0)])).set o3 (.cells [vInt a.1, vStr (B b.1), vStr (B c.1), vInt d.1, vInt e.1, vStr (B f.1), .lit (.slice none 0 0), .lit (.slice none 0 0), .lit (.slice none 0 0), .lit (.slice none 0 0), .lit (.slice none 0 0), .lit (.slice none 0 0)])), ?_, ?_, ?_⟩
          · exact ⟨by simp (disch := omega) only [Store.set_ne, Store.set_get], by simp (disch := omega) only [Store.set_ne, u2], by simp (disch := omega) only [Store.set_ne, u3], h_, subx_new ho3 (subx_new ho3 (subx_new ho3 (subx_in (.head _) (subx_in (.head _) (subx_in (.head _) u5)))))⟩
          · exact cv_
          · exact Store.Wk.refl _
        refine dR_T o_ (by rfl) (by rfl) (AOp_val v_ ?_)
        refine dR_T o_ (by rfl) (by rfl) (AOp_val v_ ?_)
        refine dR_T o_ (by rfl) (by rfl) (AOp_use (by rfl) (by rfl) (.inr ⟨by rfl, by rfl, by rfl⟩) g_ va_ (rdInt_q hd (by simp (disch := omega) only [Store.set_ne, u1])) ?_); rintro _ _ ⟨rfl, rfl⟩
        (refine dR_S o_ (by rfl) (by rfl) v_ ?_)
        refine dR_T o_ (by rfl) (by rfl) (AOp_use (by rfl) (by rfl) (.inr ⟨by rfl, by rfl, by rfl⟩) g_ va_ (rdByte_q he (Store.set_get ..)) ?_); rintro _ _ ⟨rfl, rfl⟩
        refine dR_T o_ (by rfl) (by rfl) (AOp_use (by rfl) (by rfl) (.inr ⟨by rfl, by rfl, by rfl⟩) g_ va_ (rdText_q hf (Store.set_get ..)) ?_); rintro _ _ ⟨rfl, rfl⟩
        refine dR_store o_ (by rfl) (by rfl) (by rfl) v_ v_ h_ g_ rfl g_ c_ (by rfl) le_ v_ ?_
        (refine dR_S o_ (by rfl) (by rfl) v_ ?_)
        refine dR_store o_ (by rfl) (by rfl) (by rfl) v_ v_ h_ g_ rfl g_ c_ (by rfl) le_ v_ ?_
        (refine dR_S o_ (by rfl) (by rfl) v_ ?_)
        refine dR_store o_ (by rfl) (by rfl) (by rfl) v_ v_ h_ g_ rfl g_ c_ (by rfl) le_ v_ ?_
        refine dR_nil ?_
        refine ⟨((((((υ.set o (rdO d.2)).set o (rdO e.2)).set o (rdO f.2)).set o3 (.cells [vInt a.1, vStr (B b.1), vStr (B c.1), vInt d.1, .lit (.int .i64 0), .lit (.string ⟨#[]⟩), .lit (.slice none 0 0), .lit (.slice none 0 0), .lit (.slice none 0 0), .lit (.slice none 0 0), .lit (.slice none 0 0), .lit (.slice none 0 0)])).set o3 (.cells [vInt a.1, vStr (B b.1), vStr (B c.1), vInt d.1, vInt e.1, .lit (.string ⟨#[]⟩), .lit (.slice none 0 0), .lit (.slice none 0 0), .lit (.slice none 0 0), .lit (.slice none 0 0), .lit (.slice none 0 0), .lit (.slice none 0 0)])).set o3 (.cells [vInt a.1, vStr (B b.1), vStr (B c.1), vInt d.1, vInt e.1, vStr (B f.1), .lit (.slice none 0 0), .lit (.slice none 0 0), .lit (.slice none 0 0), .lit (.slice none 0 0), .lit (.slice none 0 0), .lit (.slice none 0 0)])), ?_, ?_, ?_⟩
        · exact ⟨by simp (disch := omega) only [Store.set_ne, Store.set_get], by simp (disch := omega) only [Store.set_ne, u2], by simp (disch := omega) only [Store.set_ne, u3], h_, subx_new ho3 (subx_new ho3 (subx_new ho3 (subx_in (.head _) (subx_in (.head _) (subx_in (.head _) u5)))))⟩
        · exact cv_
        · exact Store.Wk.refl _
      refine dR_T o_ (by rfl) (by rfl) (AOp_val v_ ?_)
      refine dR_alt ?_ ?_
      · refine dR_T o_ (by rfl) (by rfl) (AOp_val v_ ?_)
        refine dR_alt ?_ ?_
        · refine dR_T o_ (by rfl) (by rfl) (AOp_use (by rfl) (by rfl) (.inr ⟨by rfl, by rfl, by rfl⟩) g_ va_ (rdInt_q hd (by simp (disch := omega) only [Store.set_ne, u1])) ?_); rintro _ _ ⟨rfl, rfl⟩
          (refine dR_S o_ (by rfl) (by rfl) v_ ?_)
          refine dR_T o_ (by rfl) (by rfl) (AOp_val v_ ?_)
          refine dR_T o_ (by rfl) (by rfl) (AOp_use (by rfl) (by rfl) (.inr ⟨by rfl, by rfl, by rfl⟩) g_ va_ (rdByte_q he (Store.set_get ..)) ?_); rintro _ _ ⟨rfl, rfl⟩
          refine dR_T o_ (by rfl) (by rfl) (AOp_use (by rfl) (by rfl) (.inr ⟨by rfl, by rfl, by rfl⟩) g_ va_ (rdText_q hf (Store.set_get ..)) ?_); rintro _ _ ⟨rfl, rfl⟩
          refine dR_store o_ (by rfl) (by rfl) (by rfl) v_ v_ h_ g_ rfl g_ c_ (by rfl) le_ v_ ?_
          (refine dR_S o_ (by rfl) (by rfl) v_ ?_)
          refine dR_store o_ (by rfl) (by rfl) (by rfl) v_ v_ h_ g_ rfl g_ c_ (by rfl) le_ v_ ?_
          (refine dR_S o_ (by rfl) (by rfl) v_ ?_)
          refine dR_store o_ (by rfl) (by rfl) (by rfl) v_ v_ h_ g_ rfl g_ c_ (by rfl) le_ v_ ?_
          refine dR_nil ?_
          refine ⟨((((((υ.set o (rdO d.2)).set o (rdO e.2)).set o (rdO f.2)).set o3 (.cells [vInt a.1, vStr (B b.1), vStr (B c.1), vInt d.1, .lit (.int .i64 0), .lit (.string ⟨#[]⟩), .lit (.slice none 0 0), .lit (.slice none 0 0), .lit (.slice none 0 0), .lit (.slice none 0 0), .lit (.slice none 0 0), .lit (.slice none 0 0)])).set o3 (.cells [vInt a.1, vStr (B b.1), vStr (B c.1), vInt d.1, vInt e.1, .lit (.string ⟨#[]⟩), .lit (.slice none 0 0), .lit (.slice none 0 0), .lit (.slice none 0 0), .lit (.slice none 0 0), .lit (.slice none 0 0), .lit (.slice none 0 0)])).set o3 (.cells [vInt a.1, vStr (B b.1), vStr (B c.1), vInt d.1, vInt e.1, vStr (B f.1), .lit (.slice none 0 0), .lit (.slice none 0 0), .lit (.slice none 0 0), .lit (.slice none 0 0), .lit (.slice none 0 0), .lit (.slice none 0 0)])), ?_, ?_, ?_⟩
          · exact ⟨by simp (disch := omega) only [Store.set_ne, Store.set_get], by simp (disch := omega) only [Store.set_ne, u2], by simp (disch := omega) only [Store.set_ne, u3], h_, subx_new ho3 (subx_new ho3 (subx_new ho3 (subx_in (.head _) (subx_in (.head _) (subx_in (.head _) u5)))))⟩
          · exact cv_
          · exact Store.Wk.refl _
        refine dR_T o_ (by rfl) (by rfl) (AOp_val v_ ?_)
        refine dR_T o_ (by rfl) (by rfl) (AOp_use (by rfl) (by rfl) (.inr ⟨by rfl, by rfl, by rfl⟩) g_ va_ (rdInt_q hd (by simp (disch := omega) only [Store.set_ne, u1])) ?_); rintro _ _ ⟨rfl, rfl⟩
        (refine dR_S o_ (by rfl) (by rfl) v_ ?_)
        refine dR_T o_ (by rfl) (by rfl) (AOp_use (by rfl) (by rfl) (.inr ⟨by rfl, by rfl, by rfl⟩) g_ va_ (rdByte_q he (Store.set_get ..)) ?_); rintro _ _ ⟨rfl, rfl⟩
        refine dR_T o_ (by rfl) (by rfl) (AOp_use (by rfl) (by rfl) (.inr ⟨by rfl, by rfl, by rfl⟩) g_ va_ (rdText_q hf (Store.set_get ..)) ?_); rintro _ _ ⟨rfl, rfl⟩
        refine dR_store o_ (by rfl) (by rfl) (by rfl) v_ v_ h_ g_ rfl g_ c_ (by rfl) le_ v_ ?_
        (refine dR_S o_ (by rfl) (by rfl) v_ ?_)
        refine dR_store o_ (by rfl) (by rfl) (by rfl) v_ v_ h_ g_ rfl g_ c_ (by rfl) le_ v_ ?_
        (refine dR_S o_ (by rfl) (by rfl) v_ ?_)
        refine dR_store o_ (by rfl) (by rfl) (by rfl) v_ v_ h_ g_ rfl g_ c_ (by rfl) le_ v_ ?_
        refine dR_nil ?_
        refine ⟨((((((υ.set o (rdO d.2)).set o (rdO e.2)).set o (rdO f.2)).set o3 (.cells [vInt a.1, vStr (B b.1), vStr (B c.1), vInt d.1, .lit (.int .i64 0), .lit (.string ⟨#[]⟩), .lit (.slice none 0 0), .lit (.slice none 0 0), .lit (.slice none 0 0), .lit (.slice none 0 0), .lit (.slice none 0 0), .lit (.slice none 0 0)])).set o3 (.cells [vInt a.1, vStr (B b.1), vStr (B c.1), vInt d.1, vInt e.1, .lit (.string ⟨#[]⟩), .lit (.slice none 0 0), .lit (.slice none 0 0), .lit (.slice none 0 0), .lit (.slice none 0 0), .lit (.slice none 0 0), .lit (.slice none 0 0)])).set o3 (.cells [vInt a.1, vStr (B b.1), vStr (B c.1), vInt d.1, vInt e.1, vStr (B f.1), .lit (.slice none 0 0), .lit (.slice none 0 0), .lit (.slice none 0 0), .lit (.slice none 0 0), .lit (.slice none 0 0), .lit (.slice none 0 0)])), ?_, ?_, ?_⟩
        · exact ⟨by simp (disch := omega) only [Store.set_ne, Store.set_get], by simp (disch := omega) only [Store.set_ne, u2], by simp (disch := omega) only [Store.set_ne, u3], h_, subx_new ho3 (subx_new ho3 (subx_new ho3 (subx_in (.head _) (subx_in (.head _) (subx_in (.head _) u5)))))⟩
        · exact cv_
        · exact Store.Wk.refl _
      refine dR_T o_ (by rfl) (by rfl) (AOp_val v_ ?_)
      refine dR_T o_ (by rfl) (by rfl) (AOp_val v_ ?_)
      refine dR_T o_ (by rfl) (by rfl) (AOp_use (by rfl) (by rfl) (.inr ⟨by rfl, by rfl, by rfl⟩) g_ va_ (rdInt_q hd (by simp (disch := omega) only [Store.set_ne, u1])) ?_); rintro _ _ ⟨rfl, rfl⟩
      (refine dR_S o_ (by rfl) (by rfl) v_ ?_)
      refine dR_T o_ (by rfl) (by rfl) (AOp_use (by rfl) (by rfl) (.inr ⟨by rfl, by rfl, by rfl⟩) g_ va_ (rdByte_q he (Store.set_get ..)) ?_); rintro _ _ ⟨rfl, rfl⟩
      refine dR_T o_ (by rfl) (by rfl) (AOp_use (by rfl) (by rfl) (.inr ⟨by rfl, by rfl, by rfl⟩) g_ va_ (rdText_q hf (Store.set_get ..)) ?_); rintro _ _ ⟨rfl, rfl⟩
      refine dR_store o_ (by rfl) (by rfl) (by rfl) v_ v_ h_ g_ rfl g_ c_ (by rfl) le_ v_ ?_
      (refine dR_S o_ (by rfl) (by rfl) v_ ?_)
      refine dR_store o_ (by rfl) (by rfl) (by rfl) v_ v_ h_ g_ rfl g_ c_ (by rfl) le_ v_ ?_
      (refine dR_S o_ (by rfl) (by rfl) v_ ?_)
      refine dR_store o_ (by rfl) (by rfl) (by rfl) v_ v_ h_ g_ rfl g_ c_ (by rfl) le_ v_ ?_
      refine dR_nil ?_
      refine ⟨((((((υ.set o (rdO d.2)).set o (rdO e.2)).set o (rdO f.2)).set o3 (.cells [vInt a.1, vStr (B b.1), vStr (B c.1), vInt d.1, .lit (.int .i64 0), .lit (.string ⟨#[]⟩), .lit (.slice none 0 0), .lit (.slice none 0 0), .lit (.slice none 0 0), .lit (.slice none 0 0), .lit (.slice none 0 0), .lit (.slice none 0 0)])).set o3 (.cells [vInt a.1, vStr (B b.1), vStr (B c.1), vInt d.1, vInt e.1, .lit (.string ⟨#[]⟩), .lit (.slice none 0 0), .lit (.slice none 0 0), .lit (.slice none 0 0), .lit (.slice none 0 0), .lit (.slice none 0 0), .lit (.slice none 0 0)])).set o3 (.cells [vInt a.1, vStr (B b.1), vStr (B c.1), vInt d.1, vInt e.1, vStr (B f.1), .lit (.slice none 0 0), .lit (.slice none 0 0), .lit (.slice none 0 0), .lit (.slice none 0 0), .lit (.slice none 0 0), .lit (.slice none 0 0)])), ?_, ?_, ?_⟩
      · exact ⟨by simp (disch := omega) only [Store.set_ne, Store.set_get], by simp (disch := omega) only [Store.set_ne, u2], by simp (disch := omega) only [Store.set_ne, u3], h_, subx_new ho3 (subx_new ho3 (subx_new ho3 (subx_in (.head _) (subx_in (.head _) (subx_in (.head _) u5)))))⟩
      · exact cv_
      · exact Store.Wk.refl _
    · rintro φ ⟨q1, q2, q3, q4, q5⟩
      simp only [envL_cons, envL_nil]
      refine awp_seq_mid (ι := Store) (fun κ => κ.heap o = some (rdO h.2) ∧ κ.heap o1 = some (.cells [.ref o 0]) ∧ κ.heap o2 = some z ∧ κ.heap o3 = some (.cells [vInt a.1, vStr (B b.1), vStr (B c.1), vInt d.1, vInt e.1, vStr (B f.1), .sl 3 (g.1.ctx.map sSeen) false, .sl 5 (g.1.sibs.map sSib) false, .sl 1 (h.1.map vStr) false, .lit (.slice none 0 0), .lit (.slice none 0 0), .lit (.slice none 0 0)]) ∧ SubX [o] σ κ) (fun κ => [(1, .ref o1 0), (2, .ref o2 0), (3, .ref o3 0)]) (fun κ => κ) ?_ ?_
      · have R := q2
        refine awp_draw (.alt 0 2 (.alt 1 2 (.op 4 0 (.op 2 2 (.op 3 2 (.op 5 2 (.op 6 0 (.op 7 2 .nil)))))) (.op 2 2 (.op 1 2 (.op 4 0 (.op 3 2 (.op 5 2 (.op 6 0 (.op 7 2 .nil)))))))) (.op 2 2 (.op 0 2 (.op 1 2 (.op 4 0 (.op 3 2 (.op 5 2 (.op 6 0 (.op 7 2 .nil))))))))) Tryz.mixed (by kernel_rfl) ?_
        refine dR_alt ?_ ?_
        · refine dR_T o_ (by rfl) (by rfl) (AOp_val v_ ?_)
          refine dR_alt ?_ ?_
          · refine dR_T o_ (by rfl) (by rfl) (AOp_use (by rfl) (by rfl) (.inr ⟨by rfl, by rfl, by rfl⟩) g_ va_ (readObj_q hg q1) ?_); rintro _ ρ ⟨rfl, r1, r2⟩
            have k1 := keep (i := o1) r2 q2 (by simp; omega)
            have k3 := keep (i := o3) r2 q4 (by simp; omega)
            have k2 := keep (i := o2) r2 q3 (by simp; omega)
            have R := And.intro k1 k3
            (refine dR_S o_ (by rfl) (by rfl) v_ ?_)
            refine dR_T o_ (by rfl) (by rfl) (AOp_val v_ ?_)
            refine dR_T o_ (by rfl) (by rfl) (AOp_use (by rfl) (by rfl) (.inr ⟨by rfl, by rfl, by rfl⟩) g_ va_ (texts_q hh r1) ?_); rintro _ ψ ⟨rfl, w1, w2⟩
            have l1 := keep (i := o1) w2 k1 (by simp; omega)
            have l3 := keep (i := o3) w2 k3 (by simp; omega)
            have l2 := keep (i := o2) w2 k2 (by simp; omega)
            have R := And.intro l1 l3
            refine dR_store o_ (by rfl) (by rfl) (by rfl) v_ v_ h_ g_ rfl g_ c_ (by rfl) le_ v_ ?_
            (refine dR_S o_ (by rfl) (by rfl) v_ ?_)
            refine dR_store o_ (by rfl) (by rfl) (by rfl) v_ v_ h_ g_ rfl g_ c_ (by rfl) le_ v_ ?_
            refine dR_nil ?_
            refine ⟨((ψ.set o3 (.cells [vInt a.1, vStr (B b.1), vStr (B c.1), vInt d.1, vInt e.1, vStr (B f.1), .sl 3 (g.1.ctx.map sSeen) false, .sl 5 (g.1.sibs.map sSib) false, .lit (.slice none 0 0), .lit (.slice none 0 0), .lit (.slice none 0 0), .lit (.slice none 0 0)])).set o3 (.cells [vInt a.1, vStr (B b.1), vStr (B c.1), vInt d.1, vInt e.1, vStr (B f.1), .sl 3 (g.1.ctx.map sSeen) false, .sl 5 (g.1.sibs.map sSib) false, .sl 1 (h.1.map vStr) false, .lit (.slice none 0 0), .lit (.slice none 0 0), .lit (.slice none 0 0)])), ?_, ?_, ?_⟩
            · exact ⟨by simp (disch := omega) only [Store.set_ne, w1], by simp (disch := omega) only [Store.set_ne, l1], by simp (disch := omega) only [Store.set_ne, l2], h_, subx_new ho3 (subx_new ho3 (SubX.trans (SubX.trans q5 r2) w2))⟩
            · exact cv_
            · exact Store.Wk.refl _
          refine dR_T o_ (by rfl) (by rfl) (AOp_val v_ ?_)
          refine dR_T o_ (by rfl) (by rfl) (AOp_use (by rfl) (by rfl) (.inr ⟨by rfl, by rfl, by rfl⟩) g_ va_ (readObj_q hg q1) ?_); rintro _ ρ ⟨rfl, r1, r2⟩
          have k1 := keep (i := o1) r2 q2 (by simp; omega)
          have k3 := keep (i := o3) r2 q4 (by simp; omega)
          have k2 := keep (i := o2) r2 q3 (by simp; omega)
          have R := And.intro k1 k3
          (refine dR_S o_ (by rfl) (by rfl) v_ ?_)
          refine dR_T o_ (by rfl) (by rfl) (AOp_use (by rfl) (by rfl) (.inr ⟨by rfl, by rfl, by rfl⟩) g_ va_ (texts_q hh r1) ?_); rintro _ ψ ⟨rfl, w1, w2⟩
          have l1 := keep (i := o1) w2 k1 (by simp; omega)
          have l3 := keep (i := o3) w2 k3 (by simp; omega)
          have l2 := keep (i := o2) w2 k2 (by simp; omega)
          have R := And.intro l1 l3
          refine dR_store o_ (by rfl) (by rfl) (by rfl) v_ v_ h_ g_ rfl g_ c_ (by rfl) le_ v_ ?_
          (refine dR_S o_ (by rfl) (by rfl) v_ ?_)
          refine dR_store o_ (by rfl) (by rfl) (by rfl) v_ v_ h_ g_ rfl g_ c_ (by rfl) le_ v_ ?_
          refine dR_nil ?_
          refine ⟨((ψ.set o3 (.cells [vInt a.1, vStr (B b.1), vStr (B c.1), vInt d.1, vInt e.1, vStr (B f.1), .sl 3 (g.1.ctx.map sSeen) false, .sl 5 (g.1.sibs.map sSib) false, .lit (.slice none 0 0), .lit (.slice none 0 0), .lit (.slice none 0 0), .lit (.slice none 0 0)])).set o3 (.cells [vInt a.1, vStr (B b.1), vStr (B c.1), vInt d.1, vInt e.1, vStr (B f.1), .sl 3 (g.1.ctx.map sSeen) false, .sl 5 (g.1.sibs.map sSib) false, .sl 1 (h.1.map vStr) false, .lit (.slice none 0 0), .lit (.slice none 0 0), .lit (.slice none 0 0)])), ?_, ?_, ?_⟩
          · exact ⟨by simp (disch := omega) only [Store.set_ne, w1], by simp (disch := omega) only [Store.set_ne, l1], by simp (disch := omega) only [Store.set_ne, l2], h_, subx_new ho3 (subx_new ho3 (SubX.trans (SubX.trans q5 r2) w2))⟩
          · exact cv_
          · exact Store.Wk.refl _
        refine dR_T o_ (by rfl) (by rfl) (AOp_val v_ ?_)
        refine dR_T o_ (by rfl) (by rfl) (AOp_val v_ ?_)
        refine dR_T o_ (by rfl) (by rfl) (AOp_use (by rfl) (by rfl) (.inr ⟨by rfl, by rfl, by rfl⟩) g_ va_ (readObj_q hg q1) ?_); rintro _ ρ ⟨rfl, r1, r2⟩
        have k1 := keep (i := o1) r2 q2 (by simp; omega)
        have k3 := keep (i := o3) r2 q4 (by simp; omega)
        have k2 := keep (i := o2) r2 q3 (by simp; omega)
        have R := And.intro k1 k3
        (refine dR_S o_ (by rfl) (by rfl) v_ ?_)
        refine dR_T o_ (by rfl) (by rfl) (AOp_use (by rfl) (by rfl) (.inr ⟨by rfl, by rfl, by rfl⟩) g_ va_ (texts_q hh r1) ?_); rintro _ ψ ⟨rfl, w1, w2⟩
        have l1 := keep (i := o1) w2 k1 (by simp; omega)
        have l3 := keep (i := o3) w2 k3 (by simp; omega)
        have l2 := keep (i := o2) w2 k2 (by simp; omega)
        have R := And.intro l1 l3
        refine dR_store o_ (by rfl) (by rfl) (by rfl) v_ v_ h_ g_ rfl g_ c_ (by rfl) le_ v_ ?_
        (refine dR_S o_ (by rfl) (by rfl) v_ ?_)
        refine dR_store o_ (by rfl) (by rfl) (by rfl) v_ v_ h_ g_ rfl g_ c_ (by rfl) le_ v_ ?_
        refine dR_nil ?_
        refine ⟨((ψ.set o3 (.cells [vInt a.1, vStr (B b.1), vStr (B c.1), vInt d.1, vInt e.1, vStr (B f.1), .sl 3 (g.1.ctx.map sSeen) false, .sl 5 (g.1.sibs.map sSib) false, .lit (.slice none 0 0), .lit (.slice none 0 0), .lit (.slice none 0 0), .lit (.slice none 0 0)])).set o3 (.cells [vInt a.1, vStr (B b.1), vStr (B c.1), vInt d.1, vInt e.1, vStr (B f.1), .sl 3 (g.1.ctx.map sSeen) false, .sl 5 (g.1.sibs.map sSib) false, .sl 1 (h.1.map vStr) false, .lit (.slice none 0 0), .lit (.slice none 0 0), .lit (.slice none 0 0)])), ?_, ?_, ?_⟩
        · exact ⟨by simp (disch := omega) only [Store.set_ne, w1], by simp (disch := omega) only [Store.set_ne, l1], by simp (disch := omega) only [Store.set_ne, l2], h_, subx_new ho3 (subx_new ho3 (SubX.trans (SubX.trans q5 r2) w2))⟩
        · exact cv_
        · exact Store.Wk.refl _
      · rintro κ ⟨v1, v2, v3, v4, v5⟩
        simp only [envL_cons, envL_nil]
        refine awp_seq ?_
        have R := v2
        refine awp_region (by kernel_rfl) ?_
        iterate 2 (refine aL_S rfl rfl v_ ?_)
        refine aL_X rfl rfl (AOp_use rfl rfl (.inr ⟨rfl, rfl, rfl⟩) g_ va_ (sevLeaf_q (fun τ => τ.heap o1 = some (.cells [.ref o 0])) hi (by kernel_rfl) (fun _ _ h k => keep k h (by simp; omega)) v1 v2 (fun _ _ h k => readLeaf_c h k)) ?_); rintro _ κ5 ⟨rfl, a1, a2⟩
        have b1 := keep (i := o1) a2 v2 (by simp; omega)
        have b2 := keep (i := o2) a2 v3 (by simp; omega)
        have b3 := keep (i := o3) a2 v4 (by simp; omega)
        have R := And.intro b1 b3
        (refine aL_S rfl rfl v_ ?_)
        refine aL_store rfl rfl rfl v_ v_ h_ g_ rfl g_ c_ (by rfl) le_ v_ ?_
        refine aL_nil ?_
        refine awp_seq ?_
        have R := b1
        refine awp_region (by kernel_rfl) ?_
        iterate 2 (refine aL_S rfl rfl v_ ?_)
        refine aL_X rfl rfl (AOp_use rfl rfl (.inr ⟨rfl, rfl, rfl⟩) g_ va_ (sevItem_q (fun τ => τ.heap o1 = some (.cells [.ref o 0])) hj (by kernel_rfl) (fun _ _ h k => keep k h (by simp; omega)) (by simp (disch := omega) only [Store.set_ne, a1]) (by simp (disch := omega) only [Store.set_ne, b1]) (fun _ _ h k => readItem_c h k)) ?_); rintro _ κ6 ⟨rfl, c1, c2⟩
        have d1 := keep (i := o1) (x := .cells [.ref o 0]) c2 (by simp (disch := omega) only [Store.set_ne, b1]) (by simp; omega)
        have d2 := keep (i := o2) (x := z) c2 (by simp (disch := omega) only [Store.set_ne, b2]) (by simp; omega)
        have d3 := keep (i := o3) c2 (Store.set_get ..) (by simp; omega)
        have R := And.intro d1 d3
        (refine aL_S rfl rfl v_ ?_)
        refine aL_store rfl rfl rfl v_ v_ h_ g_ rfl g_ c_ (by rfl) le_ v_ ?_
        refine aL_nil ?_
        refine awp_seq ?_
        have R := d1
        refine awp_region (by kernel_rfl) ?_
        (refine aL_S rfl rfl v_ ?_)
        refine aL_X rfl rfl (AOp_use rfl rfl (.inr ⟨rfl, rfl, rfl⟩) g_ va_ (readEnts_q hk (by simp (disch := omega) only [Store.set_ne, c1])) ?_); rintro _ κ7 ⟨rfl, f1, f2⟩
        have g2 := keep (i := o2) (x := z) f2 (by simp (disch := omega) only [Store.set_ne, d2]) (by simp; omega)
        have g3 := keep (i := o3) f2 (Store.set_get ..) (by simp; omega)
        have R := g3
        (refine aL_S rfl rfl v_ ?_)
        refine aL_store rfl rfl rfl v_ v_ h_ g_ rfl g_ c_ (by rfl) le_ v_ ?_
        refine aL_nil ?_
        refine awp_seq ?_
        rw [← hz] at g2
        have R := g2
        refine awp_region (by kernel_rfl) ?_
        (refine aL_S rfl rfl v_ ?_)
        refine aL_store rfl rfl rfl v_ v_ h_ g_ rfl g_ c_ (by rfl) le_ v_ ?_
        refine aL_nil ?_
        refine awp_ret ?_
        refine aEnd_ret v_ (Store.Wk.refl _) ?_
        refine ⟨rfl, by simp (disch := omega) only [Store.set_ne, f1], ?_⟩
        exact subx_new ho2 (subx_new ho3 (SubX.trans (subx_new ho3 (SubX.trans (subx_new ho3 (SubX.trans v5 a2)) c2)) f2))
end Go.Proofs.YtbjloippgpilcaaGreat
end
