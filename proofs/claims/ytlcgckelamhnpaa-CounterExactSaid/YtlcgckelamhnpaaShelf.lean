/- The contracts of the library that this seat uses, laid by the kit, in plain words. -/
import Derived.Shelf.Lay
import Derived.Shelf.LaySoft

import Derived.Test.YtlcgckelamhnpaaProg
namespace Go.Proofs
open Go.Shelf
end Go.Proofs
